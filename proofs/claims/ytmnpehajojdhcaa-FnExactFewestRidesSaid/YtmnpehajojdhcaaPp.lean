/- Loads: FewestRides: the rooms that are on each ride; what a call may touch beside several slices. -/
import Derived.Test.YtmnpehajojdhcaaPo
namespace Go.Proofs.Ytmnpehajojdhcaa
open Go.RowKit
set_option maxRecDepth 100000
set_option linter.unusedVariables false
set_option linter.unusedSimpArgs false

def rideR (l : List GroupR) (g : List Nat) (k : Nat) : RoomR := ⟨sumG GroupR.People l (rideW g k), sumG GroupR.Bikes l (rideW g k), sumG kiloG l (rideW g k)⟩
def onL (l : List GroupR) (g : List Nat) (u : Nat) : List RoomR := (List.range u).map (rideR l g)
theorem onL_len (l : List GroupR) (g : List Nat) (u : Nat) : (onL l g u).length = u := by simp [onL]
theorem onL_at (l : List GroupR) (g : List Nat) (u k : Nat) (h : k < u) : RoomR.at_ (onL l g u) k = rideR l g k := by
  unfold RoomR.at_
  simp [onL, List.getD, List.getElem?_map, List.getElem?_range h]
theorem rideR_other (l : List GroupR) (g : List Nat) (k i : Nat) (h : i ≠ k) : rideR l (g ++ [k]) i = rideR l g i := by
  have e : rideW (g ++ [k]) i = rideW g i := by rw [rideW_snoc]; have : (k == i) = false := by rw [beq_eq_false_iff_ne]; exact fun x => h x.symm
                                                rw [this]; simp
  unfold rideR
  rw [e]
theorem rideW_same (g : List Nat) (k : Nat) : rideW (g ++ [k]) k = rideW g k ++ [g.length] := by rw [rideW_snoc]; simp
theorem rideR_next (l : List GroupR) (g : List Nat) (k : Nat) : rideR l (g ++ [k]) k = ⟨(rideR l g k).People + (GroupR.at_ l g.length).People, (rideR l g k).Bikes + (GroupR.at_ l g.length).Bikes, (rideR l g k).Kilos + kiloG (GroupR.at_ l g.length)⟩ := by
  unfold rideR
  rw [rideW_same, sumG_snoc, sumG_snoc, sumG_snoc]
theorem onL_set (l : List GroupR) (g : List Nat) (u k : Nat) (h : k < u) : (onL l g u).set k (rideR l (g ++ [k]) k) = onL l (g ++ [k]) u := by
  apply List.ext_getElem
  · simp [onL]
  · intro i h1 h2
    simp only [onL, List.getElem_set, List.getElem_map, List.getElem_range]
    by_cases e : k = i
    · subst e; simp
    · rw [if_neg e, rideR_other _ _ _ _ (fun x => e x.symm)]
theorem onL_back (l : List GroupR) (g : List Nat) (u k : Nat) (h : k < u) : (onL l (g ++ [k]) u).set k (rideR l g k) = onL l g u := by
  apply List.ext_getElem
  · simp [onL]
  · intro i h1 h2
    simp only [onL, List.getElem_set, List.getElem_map, List.getElem_range]
    by_cases e : k = i
    · subst e; simp
    · rw [if_neg e, rideR_other _ _ _ _ (fun x => e x.symm)]
theorem onL_new (l : List GroupR) (g : List Nat) (u : Nat) : onL l (g ++ [u]) (u + 1) = onL l g u ++ [rideR l (g ++ [u]) u] := by
  unfold onL
  rw [List.range_succ, List.map_append]
  congr 1
  apply List.map_congr_left
  intro i hi
  rw [List.mem_range] at hi
  exact rideR_other _ _ _ _ (by omega)
theorem rideR_fits (l : List GroupR) (r : RoomR) (g : List Nat) (k : Nat) : fitsW l r (rideW g k ++ [g.length]) = (decide ((rideR l (g ++ [k]) k).People ≤ r.People) && (decide ((rideR l (g ++ [k]) k).Bikes ≤ r.Bikes) && decide ((rideR l (g ++ [k]) k).Kilos ≤ r.Kilos))) := by
  unfold fitsW rideR
  rw [rideW_same]
theorem rideR_bd {l : List GroupR} (hg : GOk l) {g : List Nat} (hl : g.length ≤ l.length) (hn : l.length ≤ 12) (k : Nat) : (0 ≤ (rideR l g k).People ∧ (rideR l g k).People ≤ 2400) ∧ (0 ≤ (rideR l g k).Bikes ∧ (rideR l g k).Bikes ≤ 480) ∧ (0 ≤ (rideR l g k).Kilos ∧ (rideR l g k).Kilos ≤ 1387200) := by
  have h1 := gok_sums hg (ws := rideW g k) (fun x hx => by have := rideTo_lt x hx; omega)
  have h2 := rideTo_len g k g.length
  have h3 : (rideW g k).length ≤ 12 := by unfold rideW; omega
  have e1 : (rideR l g k).People = sumG GroupR.People l (rideW g k) := rfl
  have e2 : (rideR l g k).Bikes = sumG GroupR.Bikes l (rideW g k) := rfl
  have e3 : (rideR l g k).Kilos = sumG kiloG l (rideW g k) := rfl
  rw [e1, e2, e3]
  omega

/-- Of what was there only block b and the blocks at As may have changed. -/
structure TouchN (w w' : World) (b : Nat) (As : List (Option Addr)) : Prop where
  os : w'.os = w.os
  tape : w'.tape = w.tape
  output : w'.output = w.output
  size : w.heap.size ≤ w'.heap.size
  block : ∀ k, k < w.heap.size → k ≠ b → (∀ A ∈ As, ∀ a, A = some a → a.block ≠ k) → w'.heap[k]? = w.heap[k]?
theorem TouchN.refl (w : World) (b : Nat) (As : List (Option Addr)) : TouchN w w b As := ⟨rfl, rfl, rfl, Nat.le_refl _, fun _ _ _ _ => rfl⟩
theorem TouchN.trans {w w1 w2 : World} {b : Nat} {As As1 : List (Option Addr)} (h : TouchN w w1 b As) (h1 : TouchN w1 w2 b As1) (ho : ∀ A1 ∈ As1, ∃ A ∈ As, OldNew w A A1) : TouchN w w2 b As :=
  ⟨h1.os.trans h.os, h1.tape.trans h.tape, h1.output.trans h.output, Nat.le_trans h.size h1.size, fun k hk hb hA => (h1.block k (Nat.lt_of_lt_of_le hk h.size) hb (fun A1 hA1 a ha => by
    obtain ⟨A, hAm, ho2⟩ := ho A1 hA1
    rcases ho2 a ha with ⟨a0, e1, e2⟩ | h2
    · rw [← e2]; exact hA A hAm a0 e1
    · omega)).trans (h.block k hk hb hA)⟩
theorem TouchN.of2 {w w' : World} {b : Nat} {A : Option Addr} {As : List (Option Addr)} (h : Touch2 w w' b A) (hA : A ∈ As ∨ A = none) : TouchN w w' b As := ⟨h.os, h.tape, h.output, h.size, fun k hk hb hn => h.block k hk hb (fun a e => by
  rcases hA with hA | hA
  · exact hn A hA a e
  · subst hA; cases e)⟩
theorem TouchN.below {w w' : World} {b B : Nat} {As : List (Option Addr)} (h : TouchN w w' b As) (hB : B ≤ w.heap.size) (hb : B ≤ b) (hA : ∀ A ∈ As, ∀ a, A = some a → B ≤ a.block) : Below B w w' :=
  ⟨h.os, h.tape, h.output, h.size, fun k hk => h.block k (by omega) (by omega) (fun A hAm a e => by have := hA A hAm a e; omega)⟩
theorem TouchN.of_setA (w : World) (b x j : Nat) (v : Value) : TouchN w (w.setCell ⟨x, j, none⟩ v) b [some ⟨x, 0, none⟩] := ⟨rfl, rfl, rfl, by simp [World.setCell], fun k hk hb hA => Below.heap_setCell _ _ _ _ (fun e => hA (some ⟨x, 0, none⟩) (by simp) ⟨x, 0, none⟩ rfl e.symm)⟩
theorem HC.touchN {w w' : World} {b b' : Nat} {As : List (Option Addr)} {vs : List Value} (h : HC w b vs) (t : TouchN w w' b' As) (hb : b ≠ b') (hA : ∀ A ∈ As, ∀ a, A = some a → a.block ≠ b) : HC w' b vs := h.keep (t.block b h.lt hb hA) t.size
end Go.Proofs.Ytmnpehajojdhcaa
