/- append of a whole slice, wherever that lies, onto a slice of the call's own. -/
import Derived.Test.YtickepianllblaaGreatDoorW
import Derived.Deep.Upon
import Derived.Lib.AppendZeros
namespace Go.Proofs.YtickepianllblaaGreatDoor
open Go.RowKit
set_option maxRecDepth 100000
set_option linter.unusedVariables false

theorem run_appS {P : Program} (w : World) (t ty : TypeId) (e : TypeId) (i : TypeInfo) (z : Value) (size bytes : Nat) (ht : P.underlying t = some (.slice e)) (hi : P.info? e = some i) (hz : i.zero = some z)
    (hsize : i.size = size) (hby : i.bytes = bytes) (hzs : z.cells.size = size) (hsz : 0 < size) (hb128 : bytes ≤ 128)
    (B n c : Nat) (A : Option Addr) (xs : List Value) (hown : Own w B e size A n c xs) (B' : Nat) (X : Option Addr) (m c' : Nat) (ys : List Value) (hr : Reads w B' size X m ys) (h1 : ∀ u ∈ ys, u.oneCell' = true)
    (hnm : n + m ≤ 1099511627776) (hB : B ≤ w.heap.size) :
    ∃ A' c'' w', (Builtin.append_ #[t, t] ty #[.slice A n c, .slice X m c']).run P w = .ok (.slice A' (n + m) c'') w' ∧ Own w' B e size A' (n + m) c'' (xs ++ ys) ∧ w.grownBy w' (A.map (·.block)) ∧ Below B w w' ∧
      (A'.map (·.block) = A.map (·.block) ∨ A'.map (·.block) = some w.heap.size) := by
  by_cases hm : m = 0
  · subst hm
    have hy : ys = [] := List.eq_nil_of_length_eq_zero (by have := hr.1; omega)
    subst hy
    refine ⟨A, c, w, ?_, by simpa using hown, ⟨rfl, rfl, rfl, Nat.le_refl _, fun _ _ _ => rfl⟩, Below.refl _ _, .inl rfl⟩
    refine run_append_nothing (P := P) w t t ty e i ht hi A n c hown.cap _ ?_
    cases X with
    | none =>
      have s := Src.ofNil (P := P) (w := w) (size := size) ht c'
      rw [← hsize] at s; exact s
    | some ad => exact Src.ofSlice (P := P) w ht ad 0 c' [] (by simp) (by intro j u hu; simp at hu) (by intro u hu; cases hu)
  · obtain ⟨ad, rfl, _, hc⟩ := hr.2 (by omega)
    have hbytes : (n + m) * bytes ≤ 140737488355328 := by
      have h1 : (n + m) * bytes ≤ 1099511627776 * 128 := Nat.mul_le_mul hnm hb128
      omega
    obtain ⟨v', w', hrun, hown', hg, _, hat⟩ := run_append_own_at (P := P) w B t ty e i z size bytes ht hi hz hsize hby hzs hsz _ n xs hown ad m c' ys hr.1 hc h1 (by simp only [maxLen]; omega) hbytes hB
    have hob : ∀ (X : Option Addr) (p q : Nat), Value.ownBlock (.slice X p q) = X.map (·.block) := by intro X p q; cases X <;> rfl
    have hv : ∃ A' c'', v' = .slice A' (n + m) c'' := by
      rcases hown'.2 with ⟨rfl, h0⟩ | ⟨g, cap, cur, rfl, _⟩
      · exact ⟨none, 0, by rw [h0]⟩
      · exact ⟨_, _, rfl⟩
    obtain ⟨A', c'', rfl⟩ := hv
    rw [hob] at hg hat
    rw [hob] at hat
    exact ⟨A', c'', w', hrun, hown', hg, below_of_grown hg hB fun y hy => (hown.block_lt y hy).2.2.1, hat⟩

theorem wpList_appS {P : Program} {w : World} {ops : Array Oper} {rest : List Oper} {o : Oper} {a : Act} {Q : Exit → Act → World → Prop} (hgd : o.guard = none) (s x : Operand) (t : TypeId)
    (ho : o.op = .call { callee := .builtin .append, args := #[s, x], argTypes := #[t, t] })
    (e : TypeId) (i : TypeInfo) (z : Value) (size bytes : Nat) (ht : P.underlying t = some (.slice e)) (hi : P.info? e = some i) (hz : i.zero = some z)
    (hsize : i.size = size) (hby : i.bytes = bytes) (hzs : z.cells.size = size) (hsz : 0 < size) (hb128 : bytes ≤ 128)
    (B n c : Nat) (A : Option Addr) (xs : List Value) (hs : a.eval s = .slice A n c) (hown : Own w B e size A n c xs)
    (B' : Nat) (X : Option Addr) (m c' : Nat) (ys : List Value) (hx : a.eval x = .slice X m c') (hr : Reads w B' size X m ys) (h1 : ∀ u ∈ ys, u.oneCell' = true)
    (hnm : n + m ≤ 1099511627776) (hB : B ≤ w.heap.size)
    (h : ∀ A' c'' w', Own w' B e size A' (n + m) c'' (xs ++ ys) → w.grownBy w' (A.map (·.block)) → Below B w w' → (A'.map (·.block) = A.map (·.block) ∨ A'.map (·.block) = some w.heap.size) →
      wpList P ops Q rest (a.put o.dst (.slice A' (n + m) c'')) w') : wpList P ops Q (o :: rest) a w := by
  obtain ⟨A', c'', w', hrun, r1, r2, r3, r4⟩ := run_appS (P := P) w t o.type e i z size bytes ht hi hz hsize hby hzs hsz hb128 B n c A xs hown B' X m c' ys hr h1 hnm hB
  exact Lib.wpList_append_run w hgd s x t t ho _ _ hs hx _ _ hrun (h A' c'' w' r1 r2 r3 r4)

theorem step_appS {P : Program} (w : World) {ops : Array Oper} {o : Oper} {a : Act} {K : Act → World → Prop} {Q : Exit → Act → World → Prop} {E : Prop} (hgd : o.guard = none) (s x : Operand) (t : TypeId)
    (ho : o.op = .call { callee := .builtin .append, args := #[s, x], argTypes := #[t, t] })
    (e : TypeId) (i : TypeInfo) (z : Value) (size bytes : Nat) (ht : P.underlying t = some (.slice e)) (hi : P.info? e = some i) (hz : i.zero = some z)
    (hsize : i.size = size) (hby : i.bytes = bytes) (hzs : z.cells.size = size) (hsz : 0 < size) (hb128 : bytes ≤ 128)
    (B n c : Nat) (A : Option Addr) (xs : List Value) (hs : a.eval s = .slice A n c) (hown : Own w B e size A n c xs)
    (B' : Nat) (X : Option Addr) (m c' : Nat) (ys : List Value) (hx : a.eval x = .slice X m c') (hr : Reads w B' size X m ys) (h1 : ∀ u ∈ ys, u.oneCell' = true)
    (hnm : n + m ≤ 1099511627776) (hB : B ≤ w.heap.size)
    (h : ∀ A' c'' w', Own w' B e size A' (n + m) c'' (xs ++ ys) → w.grownBy w' (A.map (·.block)) → Below B w w' → (A'.map (·.block) = A.map (·.block) ∨ A'.map (·.block) = some w.heap.size) →
      K (a.put o.dst (.slice A' (n + m) c'')) w') : if Region.wanted o (yielded ops a.tmps) = true then Oper.wp P o a w K Q else E := by
  have hw : Region.wanted o (yielded ops a.tmps) = true := by simp [Region.wanted, hgd]
  rw [if_pos hw]
  obtain ⟨A', c'', w', hrun, r1, r2, r3, r4⟩ := run_appS (P := P) w t o.type e i z size bytes ht hi hz hsize hby hzs hsz hb128 B n c A xs hown B' X m c' ys hr h1 hnm hB
  exact Lib.wp_append_run w s x t t ho _ _ hs hx _ _ hrun (h A' c'' w' r1 r2 r3 r4)

theorem ints_one (zs : List Int) : ∀ u ∈ zs.map (Value.int .i64), u.oneCell' = true := by
  intro u hu
  obtain ⟨x, _, rfl⟩ := List.mem_map.1 hu
  rfl
end Go.Proofs.YtickepianllblaaGreatDoor
