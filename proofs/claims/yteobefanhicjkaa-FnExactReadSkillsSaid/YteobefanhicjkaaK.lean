/- Slices of texts: contracts of the functions that compare, mark and read them. -/
import Derived.Test.YteobefanhicjkaaS
import Derived.Handy
import Derived.StillTailTactics
import Derived.Test.YteobefanhicjkaaM
import Derived.Deep.RegionHeld3
namespace Go.Proofs.Yteobefanhicjkaa
open Go.RowKit
set_option maxRecDepth 100000
set_option linter.unusedVariables false

def stx (l : List ByteArray) (k : Nat) : ByteArray := l.getD k ByteArray.empty
theorem stx_get {l : List ByteArray} {k : Nat} (h : k < l.length) : (l.map Value.string)[k]? = some (.string (stx l k)) := by
  rw [List.getElem?_map, List.getElem?_eq_getElem h]
  simp [stx, List.getD, List.getElem?_eq_getElem h]
theorem strs_len {w : World} {B n : Nat} {A : Option Addr} {l : List ByteArray} (h : Reads w B 1 A n (l.map Value.string)) : l.length = n := by
  have := h.1
  simpa using this
theorem strs_at {w : World} {B n k : Nat} {A : Option Addr} {l : List ByteArray} (h : Reads w B 1 A n (l.map Value.string)) (hk : k < n) : ∃ ad, A = some ad ∧ ad.block < B ∧ w.cell? (ad.add k) = some (.string (stx l k)) := by
  obtain ⟨ad, e, hb, hc⟩ := h.2 (by omega)
  exact ⟨ad, e, hb, hc k _ (stx_get (by rw [strs_len h]; exact hk))⟩

theorem eqStringS_same {A A' : Option Addr} {n n' c c' B B' : Nat} {l : List ByteArray} {w : World} (h : Reads w B 1 A n (l.map Value.string)) (h' : Reads w B' 1 A' n' (l.map Value.string)) (hB : B ≤ w.heap.size) (hB' : B' ≤ w.heap.size) (hn : n ≤ maxLen) :
    Calls Try.prog 29 #[.slice A n c, .slice A' n' c'] w fun e w' => e = .returned (.bool true) ∧ Below w.heap.size w w' := by
  refine calls_draws ?_
  have e1 := strs_len h
  have e2 := strs_len h'
  obtain rfl : n = n' := by omega
  unfold maxLen at hn
  clear e1 e2
  have hne : ((n : Int) != (n : Int)) = false := by simp
  go_enter Try.func29, Try.ntmps29
  go_wp2_with fail
  go_loopg [5] n (fun gk i wr => ∃ k : Nat, k ≤ n ∧ gk + k = n ∧ i = .int .i64 k ∧ ∃ d, wr = w.drewN d)
  case atStart => exact ⟨0, Nat.zero_le _, rfl, rfl, 0, rfl⟩
  case round =>
    obtain ⟨k, hk, hgk, rfl, d, rfl⟩ := hrel
    have Hgk := Lib.hid hgk
    clear hgk
    by_cases hlt : k < n
    · obtain ⟨ad, rfl, hbl, hc⟩ := strs_at h hlt
      obtain ⟨ad', rfl, hbl', hc'⟩ := strs_at h' hlt
      have hk0 : (0 : Int) ≤ (k : Int) := by omega
      have hk1 : (k : Int) < (n : Int) := by omega
      generalize stx l k = sk at *
      go_wp2_with fail
      go_quiet (fail)
      go_wp2_with fail
      have hgk := Hgk.out
      go_roundg (gk - 1)
      case rel => exact ⟨k + 1, by omega, by omega, by go_num, _, rfl⟩
      case measure => omega
    · go_wp2
      go_ret
      exact ⟨rfl, _, rfl⟩

def smarks (k : Int) (n : Nat) : List ByteArray := (List.range n).map fun i : Nat => mtx (k + (i : Int))
theorem smarks_len (k : Int) (n : Nat) : (smarks k n).length = n := by simp [smarks]
theorem smarks_at {k : Int} {n i : Nat} (h : i < n) : stx (smarks k n) i = mtx (k + (i : Int)) := by
  simp [stx, smarks, List.getD, h]
theorem smarks_set {l : List ByteArray} {k : Int} {n i : Nat} (h : i < n) (hl : l.length = n) :
    ((smarks k i ++ l.drop i).map Value.string).set i (.string (mtx (k + (i : Int)))) = (smarks k (i + 1) ++ l.drop (i + 1)).map Value.string := by
  rw [← List.map_set]
  congr 1
  rw [List.set_append_right _ _ (by simp [smarks])]
  simp only [smarks_len, Nat.sub_self]
  rw [List.drop_eq_getElem_cons (by omega), List.set_cons_zero]
  simp [smarks, List.range_succ]
theorem smarks_get {l : List ByteArray} {k : Int} {n i : Nat} (h : i < n) (hl : l.length = n) :
    ((smarks k i ++ l.drop i).map Value.string)[i]? = some (.string (stx l i)) := by
  rw [List.getElem?_map, List.getElem?_append_right (by simp [smarks])]
  simp only [smarks_len, Nat.sub_self]
  rw [List.getElem?_drop, Nat.add_zero, List.getElem?_eq_getElem (by omega)]
  simp [stx, List.getD, List.getElem?_eq_getElem (show i < l.length by omega)]

theorem markStringS_any {A : Option Addr} {n c B : Nat} {l : List ByteArray} {k : Int} {w : World} (h : Own w B 9 1 A n c (l.map Value.string)) (hn : n ≤ 1048576) (h0 : 0 ≤ k) (h1 : k ≤ 1000000000) :
    Calls Try.prog 31 #[.slice A n c, .int .i64 k] w fun e w' => e = .returned (.int .i64 (k + n)) ∧ Own w' B 9 1 A n c ((smarks k n).map Value.string) ∧ Touch w w' A := by
  have HL := Lib.hid (show l.length = n by have := h.len; simpa using this)
  go_enter Try.func31, Try.ntmps31
  go_wp2_with fail
  go_loopg [1, 5] n (fun gk kk i wr => ∃ i' : Nat, i' ≤ n ∧ gk + i' = n ∧ i = .int .i64 i' ∧ kk = .int .i64 (k + i') ∧
    Own wr B 9 1 A n c ((smarks k i' ++ l.drop i').map Value.string) ∧ Touch w wr A)
  case atStart => exact ⟨0, Nat.zero_le _, rfl, rfl, by simp, by simpa [smarks] using h, Touch.refl _ _⟩
  case round =>
    obtain ⟨i, hk, hgk, rfl, rfl, ho, hg⟩ := hrel
    have Hgk := Lib.hid hgk
    clear hgk
    by_cases hlt : i < n
    · obtain ⟨ad, rfl⟩ : ∃ ad, A = some ad := by
        cases A with
        | none => have := ho.none_n; omega
        | some ad => exact ⟨ad, rfl⟩
      obtain ⟨g, off, sp⟩ := ad
      obtain ⟨rfl, rfl, hB, hlt'⟩ := ho.block_lt _ rfl
      go_wp2_with fail
      refine (markText_any _ _ (by omega)).mono ?_
      rintro e w2 ⟨rfl, b⟩
      have ho1 := ho.below b
      have hg1 := hg.step b
      clear ho hg b hlt'
      generalize w2 = wr at *
      have ho := ho1
      have hg := hg1
      clear ho1 hg1
      have hfree := ho.frozenAt (j := i)
      have Hst := Lib.hid (ho.stored (j := i) (.string (mtx (k + (i : Int)))))
      have hcell' : wr.cell? ⟨g, i, none⟩ = some (.string (stx l i)) := by
        rw [ho.cellAt (by omega), smarks_get hlt HL.out]
      go_wp2_with fail
      obtain ⟨ho', hg''⟩ := Hst.out
      rw [smarks_set hlt HL.out] at ho'
      have hgk := Hgk.out
      go_roundg (gk - 1)
      case rel => exact ⟨i + 1, by omega, by omega, by go_num, by go_num, ho', hg.grown hg'' rfl⟩
      case measure => omega
    · have hke : i = n := by omega
      have ho' : Own wr B 9 1 A n c ((smarks k n).map Value.string) := by
        have hl := HL.out
        subst hke
        simpa [List.drop_eq_nil_of_le (Nat.le_of_eq hl)] using ho
      have Hke := Lib.hid hke
      clear hke ho
      go_wp2
      go_ret
      exact ⟨ret_int (by rw [Hke.out]), ho', hg⟩

theorem heldStringS_any {A : Option Addr} {n c B : Nat} {k : Int} {w : World} (h : Reads w B 1 A n ((smarks k n).map Value.string)) (hB : B ≤ w.heap.size) (hn : n ≤ 1048576) (h0 : 0 ≤ k) (h1 : k ≤ 1000000000) :
    Calls Try.prog 32 #[.slice A n c, .int .i64 k] w fun e w' => e = .returned (.int .i64 (k + n)) ∧ Below w.heap.size w w' := by
  go_enter Try.func32, Try.ntmps32
  go_wp2_with fail
  go_loopg [1, 5] n (fun gk kk i wr => ∃ i' : Nat, i' ≤ n ∧ gk + i' = n ∧ i = .int .i64 i' ∧ kk = .int .i64 (k + (i' : Int)) ∧ Below w.heap.size w wr)
  case atStart => exact ⟨0, Nat.zero_le _, rfl, rfl, by simp, Below.refl _ _⟩
  case round =>
    obtain ⟨i, hk, hgk, rfl, rfl, hb⟩ := hrel
    have Hgk := Lib.hid hgk
    have hbs := hb.size
    clear hgk
    by_cases hlt : i < n
    · obtain ⟨ad, rfl, hbl, hc0⟩ := strs_at (Reads.below h hb hB) hlt
      rw [smarks_at hlt] at hc0
      have hD : Below wr.heap.size wr wr.drew := (Below.refl _ _).drew
      have hi0 : (0 : Int) ≤ (i : Int) := by omega
      have hi1 : (i : Int) < (n : Int) := by omega
      have hadb : (ad.add i).block < wr.heap.size := by rw [block_of_add]; omega
      go_wp2_with fail
      go_region_held3 (fun w' => w'.cell? (ad.add i) = some (.string (mtx (k + (i : Int)))) ∧ Below wr.heap.size wr w')
        (first
          | (refine ⟨?_, by with_reducible exact hD⟩; exact hc0)
          | (go_split_ands; have hbS : Below wr.heap.size wr _ := (by with_reducible assumption); have hsS := hbS.size; refine ⟨?_, ?_⟩ <;> first | with_reducible exact hbS.trans (b.mono hsS) | with_reducible exact hbS.trans (b.mono (by simpa using hsS)) | (rw [b.cell (by first | omega | (simp at *; omega))]; first | with_reducible assumption | exact hc0)))
        ((first
          | (go_at_call 53; refine (markText_any _ _ (by omega)).mono ?_; rintro e w3 ⟨rfl, b⟩)))
      have hbS : Below wr.heap.size wr w3 := by go_split_ands; with_reducible assumption
      have hb3 := hb.trans (hbS.mono hbs)
      go_split_ands
      go_wp2_with fail
      have hgk := Hgk.out
      go_roundg (gk - 1)
      case rel => exact ⟨i + 1, by omega, by omega, by go_num, by go_num, hb3⟩
      case measure => omega
    · have hke : i = n := by omega
      have Hke := Lib.hid hke
      clear hke
      go_wp2
      go_ret
      exact ⟨ret_int (by rw [Hke.out]), hb⟩
end Go.Proofs.Yteobefanhicjkaa
