/- What the laws over drawn inputs share: bytes that came in; choices by bytes. -/
import Derived.Test.YtickepianllblaaGreatDoorDa
import Derived.Test.YtickepianllblaaGreatDoorO
namespace Go.Proofs.YtickepianllblaaGreatDoor
open Go.ChangeShapes Go.WideShapes Go.ChangeAt Go.RowKit Go.Deep Go.Joins
set_option maxRecDepth 100000
set_option linter.unusedVariables false

theorem open_bytes {H : Type} {enc : TypeId × Value → H} {P : Program} {W : World} {A : Option Addr} {n c : Nat} {t e : TypeId} {d : DataW H} {p : List MemPlace} (ht : P.underlying t = some (.slice e)) (he : P.underlying e = some (.int .u8)) (hC : P.cellsOf e = 1)
    (h : DataW.Trod enc P W 0 (fun _ => true) true t (.slice A n c) d p) :
    ∃ zs, Bytz W W.heap.size A n zs ∧ n ≤ c ∧ c ≤ maxLen ∧ True := by
  obtain ⟨fuel, hf⟩ := h
  rcases Go.ChangeShapes.open_ints ht he hC hf with ⟨hcs, _⟩ | ⟨x, l, cp, zs, hcs, _, hl, hm, hz, _, hcell, hwz⟩
  · simp [Value.cells] at hcs
    obtain ⟨rfl, rfl, rfl⟩ := hcs
    exact ⟨[], ⟨⟨rfl, fun h => absurd h (by omega)⟩, fun z hz => by cases hz⟩, Nat.le_refl _, by simp [maxLen], trivial⟩
  · simp [Value.cells] at hcs
    obtain ⟨rfl, rfl, rfl⟩ := hcs
    have hz' : zs.length = c := by simpa using hz
    refine ⟨zs.take n, ⟨⟨by simp; omega, fun hn => ⟨x, rfl, ?_, fun j u hu => ?_⟩⟩, fun z hz => ?_⟩, hl, hm, trivial⟩
    · have := World.block_lt_of_cell? W _ (hcell 0 (by omega))
      rwa [block_of_add] at this
    · have hj : j < n := by
        have := (List.getElem?_eq_some_iff.1 hu).1
        simp at this; omega
      have h2 := hcell j (by omega)
      rw [h2, ← hu, List.getElem?_map, List.getElem?_take, if_pos hj, List.getElem?_eq_getElem (by omega)]
      simp [List.getD, List.getElem?_eq_getElem (show j < zs.length by omega)]
    · have := hwz z (List.mem_of_mem_take hz)
      have h3 : IntKind.u8.min ≤ z ∧ z ≤ IntKind.u8.max := by simpa [Lit.wf] using this
      exact ⟨h3.1, h3.2⟩
theorem r8At_any {A : Option Addr} {n c B : Nat} {zs : List Int} {k : Nat} {m : Int} {w : World} (hr : Bytz w B A n zs) (hn : n ≤ 1048576) (hk : k ≤ 1000) :
    Calls Tryz.prog 6 #[.slice A n c, .int .i64 k, .int .i64 m] w fun e w' => ∃ x : Int, e = .returned (.int .i64 x) ∧ 0 ≤ x ∧ (x < m ∨ x = 0) ∧ w = w' := by
  by_cases hm : m ≤ 1
  · go_enter Tryz.func6, Tryz.ntmps6
    go_wp2_with fail
    go_ret
    exact ⟨0, rfl, by omega, .inr rfl, rfl⟩
  by_cases hkn : k < n
  · obtain ⟨ad, y, rfl, hbl, hcy, hy0, hy1⟩ := hr.at_ hkn
    have hmn : m ≠ 0 := by omega
    have hmm : 0 ≤ y % m ∧ y % m < m := ⟨Int.emod_nonneg _ hmn, Int.emod_lt_of_pos _ (by omega)⟩
    have hd0 : (0 : Int) ≤ (k : Int) := by omega
    have hd1 : (k : Int) < (n : Int) := by omega
    have hd2 : decide (n ≤ k) = false := by simpa using hkn
    go_enter Tryz.func6, Tryz.ntmps6
    go_wp2_with fail
    go_ret
    exact ⟨y % m, rfl, hmm.1, .inl hmm.2, rfl⟩
  · have hd2 : decide (n ≤ k) = true := by simp; omega
    go_enter Tryz.func6, Tryz.ntmps6
    go_wp2_with fail
    go_ret
    exact ⟨0, rfl, by omega, .inr rfl, rfl⟩
theorem r8Long_any {A A' : Option Addr} {n c n' c' : Nat} {w : World} :
    Calls Tryz.prog 4 #[.slice A n c, .slice A' n' c'] w fun e w' => e = .returned (.bool (decide (1048576 < n) || decide (1048576 < n'))) ∧ w = w' := by
  by_cases h1 : 1048576 < n
  · have e1 : decide ((1048576 : Int) < (n : Int)) = true := by simp; omega
    go_enter Tryz.func4, Tryz.ntmps4
    go_wp2_with fail
    go_ret
    exact ⟨by simp [h1], rfl⟩
  · have e1 : decide ((1048576 : Int) < (n : Int)) = false := by simp; omega
    by_cases h2 : 1048576 < n'
    · have e2 : decide ((1048576 : Int) < (n' : Int)) = true := by simp; omega
      go_enter Tryz.func4, Tryz.ntmps4
      go_wp2_with fail
      go_ret
      exact ⟨by simp [h1, h2], rfl⟩
    · have e2 : decide ((1048576 : Int) < (n' : Int)) = false := by simp; omega
      go_enter Tryz.func4, Tryz.ntmps4
      go_wp2_with fail
      go_ret
      exact ⟨by simp [h1, h2], rfl⟩
end Go.Proofs.YtickepianllblaaGreatDoor
