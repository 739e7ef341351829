/- Rope tests: AddTest: contracts of both sides. -/
import Derived.Test.YtdjoechokkbjeaaRU
import Derived.Test.YtdjoechokkbjeaaA
import Derived.Deep.RegionHeld3
import Derived.Lib.SliceRun
namespace Go.Proofs.Ytdjoechokkbjeaa
open Go.RowKit
set_option maxRecDepth 100000
set_option linter.unusedVariables false

theorem tests_one (l : List TestR) : ∀ u ∈ l.flatMap TestR.cells, u.oneCell' = true := by
  intro u hu
  obtain ⟨x, _, hx⟩ := List.mem_flatMap.1 hu
  simp only [TestR.cells, List.mem_cons, List.not_mem_nil, or_false] at hx
  rcases hx with rfl | rfl | rfl <;> rfl

theorem clone_test_any {A : Option Addr} {n c B : Nat} {l : List TestR} {w : World} (h : Reads w B 3 A n (l.flatMap TestR.cells)) (hB : B ≤ w.heap.size) (hn : n ≤ 1048576) :
    Calls Try.prog 73 #[.slice A n c] w fun e w' => ∃ A' c', e = .returned (.slice A' n c') ∧ Own w' w.heap.size 46 3 A' n c' (l.flatMap TestR.cells) ∧ Below w.heap.size w w' := by
  obtain ⟨i0, hi, hz0, hz1, hz2⟩ := info_parts info_Test
  cases A with
  | none =>
    have hn0 : n = 0 := by
      rcases Nat.eq_zero_or_pos n with h0 | h0
      · exact h0
      · obtain ⟨ad, e, _⟩ := h.2 h0; cases e
    have hz : l = [] := List.eq_nil_of_length_eq_zero (by have := TestR.count h; omega)
    subst hn0; subst hz
    have qT : ∀ w, (binOp .eql 29 (.slice none 0 c) (.slice none 0 0)).run Try.prog w = .ok (.bool true) w := fun w => Lib.run_eql_slice_nil w _ _ none 0 c 0 0 Try.underlying29
    go_enter Try.func73, Try.ntmps73
    go_wp2_with fail
    go_ret
    exact ⟨none, 0, rfl, Own.nil _ _ _ _, Below.refl _ _⟩
  | some ad =>
    have qT : ∀ w, (binOp .eql 29 (.slice (some ad) n c) (.slice none 0 0)).run Try.prog w = .ok (.bool false) w := fun w => Lib.run_eql_slice_nil w _ _ (some ad) n c 0 0 Try.underlying29
    go_enter Try.func73, Try.ntmps73
    go_wp2_with (at_builtin; refine wpList_appS rfl (.tmp 5) (.tmp 6) 29 rfl 46 i0 _ 3 24 Try.underlying29 hi hz0 hz1 hz2 rfl (by omega) (by omega) w.heap.size _ _ _ _ rfl (Own.empty _ _ _ _ (Nat.le_refl _)) B (some ad) n c _ rfl (Reads.alloc h hB _) (tests_one _) (by omega) (by simp) ?_)
    intro A2 c2 w2 ho hg hb hat
    go_wp2_with fail
    go_ret
    exact ⟨A2, c2, rfl, by simpa using ho, ((Below.refl _ _).alloc (Nat.le_refl _) _).trans hb⟩

theorem cells_new (w : World) (xs : List Value) (t : TypeId) : ∀ j u, xs[j]? = some u → (w.alloc (.cells xs.toArray t)).cell? ((⟨w.heap.size, 0, none⟩ : Addr).add j) = some u := by
  intro j u hu
  rw [Addr.add_lit, Nat.zero_add]
  simpa using hu
def rAddTest (l : List TestR) (x : TestR) : List TestR × Int :=
  if validTestsB l then (if testB x then (if testsB (l ++ [x]) then (if l.length < 24 then (l ++ [x], 0) else ([], 5)) else ([], 6)) else ([], 2)) else ([], 1)

theorem implAddTest_any {A : Option Addr} {n c B : Nat} {l : List TestR} {a0 a1 a2 : Int} {w : World} (h : Reads w B 3 A n (l.flatMap TestR.cells)) (hB : B ≤ w.heap.size) (hc : n ≤ c) (hn : n ≤ 1048576) :
    Calls Try.prog 37 #[.slice A n c, .agg #[.int .i64 a0, .int .i64 a1, .int .i64 a2]] w fun e w' => ∃ A2 n2 c2, e = .returned (.tuple #[.slice A2 n2 c2, .int .i64 (rAddTest l ⟨a0, a1, a2⟩).2]) ∧ n2 ≤ 1048576 ∧
      Own w' w.heap.size 46 3 A2 n2 c2 ((rAddTest l ⟨a0, a1, a2⟩).1.flatMap TestR.cells) ∧ Below w.heap.size w w' := by
  have HL := Lib.hid (TestR.count h)
  obtain ⟨i0, hi, hz0, hz1, hz2⟩ := info_parts info_Test
  go_enter Try.func37, Try.ntmps37
  go_wp2_with fail
  have hb1 : Below w.heap.size w (w.alloc (.cells #[.int .i64 a0, .int .i64 a1, .int .i64 a2] 46)) := (Below.refl _ _).alloc (Nat.le_refl _) _
  have hs1 : w.heap.size + 1 ≤ (w.alloc (.cells #[.int .i64 a0, .int .i64 a1, .int .i64 a2] 46)).heap.size := by simp
  have hx0 : (w.alloc (.cells #[.int .i64 a0, .int .i64 a1, .int .i64 a2] 46)).cell? ⟨w.heap.size, 0, none⟩ = some (.int .i64 a0) := by simp
  have hx1 : (w.alloc (.cells #[.int .i64 a0, .int .i64 a1, .int .i64 a2] 46)).cell? ⟨w.heap.size, 1, none⟩ = some (.int .i64 a1) := by simp
  have hx2 : (w.alloc (.cells #[.int .i64 a0, .int .i64 a1, .int .i64 a2] 46)).cell? ⟨w.heap.size, 2, none⟩ = some (.int .i64 a2) := by simp
  generalize w.alloc (.cells #[.int .i64 a0, .int .i64 a1, .int .i64 a2] 46) = W1 at *
  have h1 := Reads.below h hb1 hB
  have hbD : Below (w.heap.size + 1) W1 W1.drew := (Below.refl _ _).drew
  have hbE : ∀ o, Below (w.heap.size + 1) W1 (W1.alloc o).drew := fun o => ((Below.refl _ _).alloc hs1 _).drew
  go_region_held3 (fun w' => w'.cell? ⟨w.heap.size, 0, none⟩ = some (.int .i64 a0) ∧ w'.cell? ⟨w.heap.size, 1, none⟩ = some (.int .i64 a1) ∧ w'.cell? ⟨w.heap.size, 2, none⟩ = some (.int .i64 a2) ∧ Below (w.heap.size + 1) W1 w')
    (first
      | (refine ⟨?_, ?_, ?_, by with_reducible exact hbD⟩; exact hx0; exact hx1; exact hx2)
      | (go_split_ands; have hbS : Below (w.heap.size + 1) W1 _ := (by with_reducible assumption); have hsS := hbS.size; refine ⟨?_, ?_, ?_, ?_⟩ <;> first | with_reducible exact hbE _ | ((first | rw [World.cell?_alloc_lt _ _ _ (by simp only []; omega)] | (rw [show ∀ (W : World) p, W.drew.cell? p = W.cell? p from fun _ _ => rfl]; rw [World.cell?_alloc_lt _ _ _ (by simp only []; omega)]) | rw [hbA.cell (by simp only []; omega)] | rw [hb4.cell (by simp only []; omega)]); first | with_reducible assumption | exact hx0 | exact hx1 | exact hx2) | with_reducible exact hbS.alloc (by omega) _ | with_reducible exact hbS.drew | with_reducible exact (hbS.alloc (by omega) _).drew | with_reducible exact hbE _ | with_reducible exact hbS.trans hbA | with_reducible exact hbS.trans (hb4.mono (by omega))))
    ((first
      | (go_at_call 73; go_split_ands; have hbS : Below (w.heap.size + 1) W1 _ := (by with_reducible assumption); refine (clone_test_any (by exact Reads.below h1 hbS (by omega)) (by have := hbS.size; omega) (by omega)).mono ?_; rintro e w4 ⟨A4, c4, rfl, ho4, hb4⟩)
      | (have hk4 := ho4; go_split_ands; have hbS : Below (w.heap.size + 1) W1 _ := (by with_reducible assumption); refine step_app _ (by rfl) (.tmp 8) (.tmp 10) 29 (by rfl) 46 i0 _ 3 24 Try.underlying29 hi hz0 hz1 hz2 rfl (by omega) (by omega) (w.heap.size + 1) n c4 A4 (l.flatMap TestR.cells) (by rfl) (by first | exact ((ho4.mono (by simp; omega)).alloc _) | exact (ho4.mono (by simp; omega))) ⟨_, 0, none⟩ 1 1 [.int .i64 a0, .int .i64 a1, .int .i64 a2] (by rfl) (by rfl) (by first | exact cells_new _ [_, _, _] _ | exact fun j u hu => (hb4.cell (by simp [block_of_add])).trans (cells_new _ [_, _, _] _ j u hu)) (by simp [Value.oneCell']) (by omega) (by have := hbS.size; omega) ?_; intro A5 c5 w5 ho5 hgA hbA hat)))
  all_goals
    have hS : w5.cell? ⟨w.heap.size, 0, none⟩ = some (.int .i64 a0) ∧ w5.cell? ⟨w.heap.size, 1, none⟩ = some (.int .i64 a1) ∧ w5.cell? ⟨w.heap.size, 2, none⟩ = some (.int .i64 a2) ∧ Below (w.heap.size + 1) W1 w5 := by assumption
    obtain ⟨e0, e1, e2, hb5⟩ := hS
    have hbw : Below w.heap.size w w5 := hb1.trans (hb5.mono (by omega))
    have ho : Own w5 w.heap.size 46 3 A5 (n + 1) c5 ((l ++ [(⟨a0, a1, a2⟩ : TestR)]).flatMap TestR.cells) := by rw [List.flatMap_append]; exact ho5.mono (by omega)
    have hsz5 : w.heap.size + 1 ≤ w5.heap.size := by have := hb5.size; omega
    have h5 := Reads.below h hbw hB
    clear hbA hgA hat ho5 hb5 ho4 hb4 hbE hbD hx0 hx1 hx2 h1
    cases v1 : validTestsB l with
    | false =>
      have Hr : Hid (rAddTest l ⟨a0, a1, a2⟩ = ([], 1)) := Lib.hid (by rw [rAddTest, v1]; rfl)
      go_wp2_with fail
      refine (validTests_any h5 (by omega) (by omega)).mono ?_
      rintro e w6 ⟨rfl, b⟩
      go_wp2_with fail
      go_ret2
      exact ⟨none, 0, 0, by rw [Hr.out]; rfl, by omega, by rw [Hr.out]; exact Own.nil _ _ _ _, hbw.trans (b.mono (by omega))⟩
    | true =>
    go_wp2_with fail
    refine (validTests_any h5 (by omega) (by omega)).mono ?_
    rintro e w6 ⟨rfl, b⟩
    have hb6 : Below w.heap.size w w6 := hbw.trans (b.mono (by omega))
    have f0 := (b.cell (p := ⟨w.heap.size, 0, none⟩) (by simp only []; omega)).trans e0
    have f1 := (b.cell (p := ⟨w.heap.size, 1, none⟩) (by simp only []; omega)).trans e1
    have f2 := (b.cell (p := ⟨w.heap.size, 2, none⟩) (by simp only []; omega)).trans e2
    have ho6 := ho.below b
    have hsz6 : w.heap.size + 1 ≤ w6.heap.size := by have := b.size; omega
    clear e0 e1 e2 ho b
    cases v2 : testB ⟨a0, a1, a2⟩ with
    | false =>
      have Hr : Hid (rAddTest l ⟨a0, a1, a2⟩ = ([], 2)) := Lib.hid (by rw [rAddTest, v1, v2]; rfl)
      go_wp2_with fail
      refine (isTest_any).mono ?_
      rintro e w7 ⟨rfl, b⟩
      go_wp2_with fail
      go_ret2
      exact ⟨none, 0, 0, by rw [Hr.out]; rfl, by omega, by rw [Hr.out]; exact Own.nil _ _ _ _, hb6.trans (b.mono (by omega))⟩
    | true =>
    go_wp2_with fail
    refine (isTest_any).mono ?_
    rintro e w7 ⟨rfl, b⟩
    have hb7 : Below w.heap.size w w7 := hb6.trans (b.mono (by omega))
    have ho7 := ho6.below b
    clear f0 f1 f2 ho6 b
    have hl1 : (l ++ [(⟨a0, a1, a2⟩ : TestR)]).length = n + 1 := by have := HL.out; simp; omega
    cases v3 : testsB (l ++ [(⟨a0, a1, a2⟩ : TestR)]) with
    | false =>
      have Hr : Hid (rAddTest l ⟨a0, a1, a2⟩ = ([], 6)) := Lib.hid (by rw [rAddTest, v1, v2, v3]; rfl)
      go_wp2_with fail
      refine (areTests_any ho7.reads (Nat.le_refl _) (by omega)).mono ?_
      rintro e w8 ⟨rfl, b⟩
      go_wp2_with fail
      go_ret2
      exact ⟨none, 0, 0, by rw [Hr.out]; rfl, by omega, by rw [Hr.out]; exact Own.nil _ _ _ _, hb7.trans (b.mono hb7.size)⟩
    | true =>
    go_wp2_with fail
    refine (areTests_any ho7.reads (Nat.le_refl _) (by omega)).mono ?_
    rintro e w8 ⟨rfl, b⟩
    have hb8 : Below w.heap.size w w8 := hb7.trans (b.mono hb7.size)
    have ho8 := ho7.below b
    clear ho7 b
    by_cases v4 : n < 24
    · have Hr : Hid (rAddTest l ⟨a0, a1, a2⟩ = (l ++ [(⟨a0, a1, a2⟩ : TestR)], 0)) := Lib.hid (by have e1 := HL.out; rw [rAddTest, v1, v2, v3, if_pos rfl, if_pos rfl, if_pos rfl, if_pos (by omega)])
      go_wp2_with fail
      go_ret2
      exact ⟨A5, n + 1, c5, by rw [Hr.out]; rfl, by omega, by rw [Hr.out]; exact ho8, hb8⟩
    · have Hr : Hid (rAddTest l ⟨a0, a1, a2⟩ = ([], 5)) := Lib.hid (by have e1 := HL.out; rw [rAddTest, v1, v2, v3, if_pos rfl, if_pos rfl, if_pos rfl, if_neg (by omega)])
      go_wp2_with fail
      go_ret2
      exact ⟨none, 0, 0, by rw [Hr.out]; rfl, by omega, by rw [Hr.out]; exact Own.nil _ _ _ _, hb8⟩

theorem specAddTest_any {A : Option Addr} {n c B : Nat} {l : List TestR} {a0 a1 a2 : Int} {w : World} (h : Reads w B 3 A n (l.flatMap TestR.cells)) (hB : B ≤ w.heap.size) (hc : n ≤ c) (hn : n ≤ 1048576) :
    Calls Try.prog 35 #[.slice A n c, .agg #[.int .i64 a0, .int .i64 a1, .int .i64 a2]] w fun e w' => ∃ A2 n2 c2, e = .returned (.tuple #[.slice A2 n2 c2, .int .i64 (rAddTest l ⟨a0, a1, a2⟩).2]) ∧ n2 ≤ 1048576 ∧
      Own w' w.heap.size 46 3 A2 n2 c2 ((rAddTest l ⟨a0, a1, a2⟩).1.flatMap TestR.cells) ∧ Below w.heap.size w w' := by
  have HL := Lib.hid (TestR.count h)
  obtain ⟨i0, hi, hz0, hz1, hz2⟩ := info_parts info_Test
  go_enter Try.func35, Try.ntmps35
  go_wp2_with fail
  have hb1 : Below w.heap.size w (w.alloc (.cells #[.int .i64 a0, .int .i64 a1, .int .i64 a2] 46)) := (Below.refl _ _).alloc (Nat.le_refl _) _
  have hs1 : w.heap.size + 1 ≤ (w.alloc (.cells #[.int .i64 a0, .int .i64 a1, .int .i64 a2] 46)).heap.size := by simp
  have hx0 : (w.alloc (.cells #[.int .i64 a0, .int .i64 a1, .int .i64 a2] 46)).cell? ⟨w.heap.size, 0, none⟩ = some (.int .i64 a0) := by simp
  have hx1 : (w.alloc (.cells #[.int .i64 a0, .int .i64 a1, .int .i64 a2] 46)).cell? ⟨w.heap.size, 1, none⟩ = some (.int .i64 a1) := by simp
  have hx2 : (w.alloc (.cells #[.int .i64 a0, .int .i64 a1, .int .i64 a2] 46)).cell? ⟨w.heap.size, 2, none⟩ = some (.int .i64 a2) := by simp
  generalize w.alloc (.cells #[.int .i64 a0, .int .i64 a1, .int .i64 a2] 46) = W1 at *
  have h1 := Reads.below h hb1 hB
  cases v1 : validTestsB l with
  | false =>
    have Hr : Hid (rAddTest l ⟨a0, a1, a2⟩ = ([], 1)) := Lib.hid (by rw [rAddTest, v1]; rfl)
    refine (l22Tests_any h1 (by omega) (by omega)).mono ?_
    rintro e w6 ⟨rfl, b⟩
    go_wp2_with fail
    go_ret2
    exact ⟨none, 0, 0, by rw [Hr.out]; rfl, by omega, by rw [Hr.out]; exact Own.nil _ _ _ _, hb1.trans (b.mono (by omega))⟩
  | true =>
  refine (l22Tests_any h1 (by omega) (by omega)).mono ?_
  rintro e w6 ⟨rfl, b⟩
  have hb6 : Below w.heap.size w w6 := hb1.trans (b.mono (by omega))
  have f0 := (b.cell (p := ⟨w.heap.size, 0, none⟩) (by simp only []; omega)).trans hx0
  have f1 := (b.cell (p := ⟨w.heap.size, 1, none⟩) (by simp only []; omega)).trans hx1
  have f2 := (b.cell (p := ⟨w.heap.size, 2, none⟩) (by simp only []; omega)).trans hx2
  have hsz6 : w.heap.size + 1 ≤ w6.heap.size := by have := b.size; omega
  clear hx0 hx1 hx2 b
  go_wp2_with fail
  refine (l22One_any f0 f1 f2).mono ?_
  rintro e w7 ⟨rfl, rfl⟩
  cases v2 : testB ⟨a0, a1, a2⟩ with
  | false =>
    have Hr : Hid (rAddTest l ⟨a0, a1, a2⟩ = ([], 2)) := Lib.hid (by rw [rAddTest, v1, v2]; rfl)
    go_wp2_with fail
    go_ret2
    exact ⟨none, 0, 0, by rw [Hr.out]; rfl, by omega, by rw [Hr.out]; exact Own.nil _ _ _ _, hb6⟩
  | true =>
  go_wp2_with (at_builtin; refine wpList_appS rfl (.tmp 12) (.tmp 13) 29 rfl 46 i0 _ 3 24 Try.underlying29 hi hz0 hz1 hz2 rfl (by omega) (by omega) (w.heap.size + 1) _ _ _ _ rfl (Own.empty _ _ _ _ hsz6) B A n c _ rfl (Reads.alloc (Reads.below h hb6 hB) (by omega) _) (tests_one _) (by omega) (by simp; omega) ?_)
  intro A2 c2 w2 ho hg hb hat
  have hbS := ((Below.refl (w.heap.size + 1) w6).alloc hsz6 _).trans hb
  have g0 := (hbS.cell (p := ⟨w.heap.size, 0, none⟩) (by simp only []; omega)).trans f0
  have g1 := (hbS.cell (p := ⟨w.heap.size, 1, none⟩) (by simp only []; omega)).trans f1
  have g2 := (hbS.cell (p := ⟨w.heap.size, 2, none⟩) (by simp only []; omega)).trans f2
  clear f0 f1 f2 hb hat hg
  have hs2 := hbS.size
  go_wp2_with (at_builtin; refine wpList_app rfl (.tmp 15) (.tmp 17) 29 rfl 46 i0 _ 3 24 Try.underlying29 hi hz0 hz1 hz2 rfl (by omega) (by omega) (w.heap.size + 1) _ _ _ _ rfl (ho.alloc _) ⟨w2.heap.size, 0, none⟩ 1 1 [.int .i64 a0, .int .i64 a1, .int .i64 a2] rfl rfl (cells_new _ [_, _, _] _) (by simp [Value.oneCell']) (by omega) (by simp; omega) ?_)
  intro A3 c3 w3 ho3 hg hb hat
  have hb3 : Below (w.heap.size + 1) w6 w3 := (hbS.alloc (by omega) _).trans hb
  have hb7 : Below w.heap.size w w3 := hb6.trans (hb3.mono (by omega))
  have ho7 : Own w3 w.heap.size 46 3 A3 (n + 1) c3 ((l ++ [(⟨a0, a1, a2⟩ : TestR)]).flatMap TestR.cells) := by rw [List.flatMap_append]; exact ho3.mono (Nat.le_succ _)
  clear ho3 hb hbS g0 g1 g2 hg hat ho
  have hl1 : (l ++ [(⟨a0, a1, a2⟩ : TestR)]).length = n + 1 := by have := HL.out; simp; omega
  go_wp2_with fail
  refine (l22Order_any ho7.reads (Nat.le_refl _) (by omega)).mono ?_
  rintro e w8 ⟨rfl, b⟩
  have hb8 : Below w.heap.size w w8 := hb7.trans (b.mono hb7.size)
  have ho8 := ho7.below b
  clear ho7 b
  cases v3 : testsB (l ++ [(⟨a0, a1, a2⟩ : TestR)]) with
  | false =>
    have Hr : Hid (rAddTest l ⟨a0, a1, a2⟩ = ([], 6)) := Lib.hid (by rw [rAddTest, v1, v2, v3]; rfl)
    go_wp2_with fail
    go_ret2
    exact ⟨none, 0, 0, by rw [Hr.out]; rfl, by omega, by rw [Hr.out]; exact Own.nil _ _ _ _, hb8⟩
  | true =>
  by_cases v4 : n < 24
  · have Hr : Hid (rAddTest l ⟨a0, a1, a2⟩ = (l ++ [(⟨a0, a1, a2⟩ : TestR)], 0)) := Lib.hid (by have e1 := HL.out; rw [rAddTest, v1, v2, v3, if_pos rfl, if_pos rfl, if_pos rfl, if_pos (by omega)])
    go_wp2_with fail
    go_ret2
    exact ⟨A3, n + 1, c3, by rw [Hr.out]; rfl, by omega, by rw [Hr.out]; exact ho8, hb8⟩
  · have Hr : Hid (rAddTest l ⟨a0, a1, a2⟩ = ([], 5)) := Lib.hid (by have e1 := HL.out; rw [rAddTest, v1, v2, v3, if_pos rfl, if_pos rfl, if_pos rfl, if_neg (by omega)])
    go_wp2_with fail
    go_ret2
    exact ⟨none, 0, 0, by rw [Hr.out]; rfl, by omega, by rw [Hr.out]; exact Own.nil _ _ _ _, hb8⟩
end Go.Proofs.Ytdjoechokkbjeaa
