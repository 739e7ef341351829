/- Texts of lists of numbers: the joined decimals, as a plain text. -/
import Derived.Test.YtickepianllblaaGreatDoorTa
import Derived.Lib.Join
namespace Go.Proofs.YtickepianllblaaGreatDoor
open Go.RowKit
set_option maxRecDepth 100000
set_option linter.unusedVariables false
set_option linter.unusedSimpArgs false

/-- The decimals of numbers with a sign between. -/
def jn (sep : UInt8) (vs : List Nat) : ByteArray := ⟨(Lib.join (vs.map Lib.decDigits) [sep]).toArray⟩
theorem ba_app (a b : List UInt8) : (⟨a.toArray⟩ : ByteArray) ++ ⟨b.toArray⟩ = ⟨(a ++ b).toArray⟩ := by
  apply ByteArray.ext
  rw [ByteArray.data_append]
  simp
theorem ba_nil (x : ByteArray) : (⟨#[]⟩ : ByteArray) ++ x = x := by
  apply ByteArray.ext
  rw [ByteArray.data_append]
  simp
theorem jn_nil (sep : UInt8) : jn sep [] = ⟨#[]⟩ := rfl
theorem jn_one (sep : UInt8) (v : Nat) : jn sep [v] = decA v := by unfold jn decA; rw [List.map_cons, List.map_nil, Lib.join_one]
theorem join_snoc (x : List UInt8) (r : List (List UInt8)) (y sep : List UInt8) : Lib.join (x :: r ++ [y]) sep = Lib.join (x :: r) sep ++ (sep ++ y) := by
  rw [List.cons_append, Lib.join_cons, Lib.join_cons]
  simp [Lib.joinTail]
theorem jn_snoc (sep : UInt8) (vs : List Nat) (v : Nat) (h : vs ≠ []) : jn sep (vs ++ [v]) = jn sep vs ++ ⟨#[sep]⟩ ++ decA v := by
  match vs, h with
  | x :: r, _ =>
    show (⟨(Lib.join ((x :: r ++ [v]).map Lib.decDigits) [sep]).toArray⟩ : ByteArray) = ⟨(Lib.join ((x :: r).map Lib.decDigits) [sep]).toArray⟩ ++ ⟨[sep].toArray⟩ ++ ⟨(Lib.decDigits v).toArray⟩
    rw [ba_app, ba_app, List.map_append, List.map_cons, List.map_cons, List.map_nil, join_snoc, List.append_assoc]
theorem take_snocT {vs : List Nat} {k : Nat} (h : k < vs.length) : vs.take (k + 1) = vs.take k ++ [vs.getD k 0] := by
  rw [List.take_add_one, List.getElem?_eq_getElem h, List.getD_eq_getElem?_getD, List.getElem?_eq_getElem h]; rfl
theorem jn_first (sep : UInt8) {vs : List Nat} (h : 0 < vs.length) : jn sep (vs.take (0 + 1)) = decA (vs.getD 0 0) := by
  rw [take_snocT h, List.take_zero, List.nil_append, jn_one]
theorem jn_step (sep : UInt8) {vs : List Nat} {k : Nat} (h : k < vs.length) (hk : 0 < k) : jn sep (vs.take (k + 1)) = jn sep (vs.take k) ++ ⟨#[sep]⟩ ++ decA (vs.getD k 0) := by
  rw [take_snocT h]
  exact jn_snoc sep _ _ (fun e => by have := congrArg List.length e; rw [List.length_take, List.length_nil, Nat.min_eq_left (by omega)] at this; omega)
theorem getD_memT {vs : List Nat} {k : Nat} (h : k < vs.length) : vs.getD k 0 ∈ vs := by rw [List.getD_eq_getElem?_getD, List.getElem?_eq_getElem h]; exact List.getElem_mem h
theorem jn_size (sep : UInt8) {vs : List Nat} (hv : ∀ v ∈ vs, v < 18446744073709551616) : ∀ k, k ≤ vs.length → (jn sep (vs.take k)).size ≤ 21 * k := by
  intro k
  induction k with
  | zero => intro _; rw [List.take_zero, jn_nil]; exact Nat.le_refl _
  | succ k ih =>
    intro h
    have h1 := decA_size (vs.getD k 0) (hv _ (getD_memT (by omega)))
    by_cases hk : k = 0
    · subst hk
      rw [jn_first sep (by omega)]; omega
    · rw [jn_step sep (by omega) (by omega), ByteArray.size_append, ByteArray.size_append]
      have h2 := ih (by omega)
      have h3 : (⟨#[sep]⟩ : ByteArray).size = 1 := rfl
      omega
/-- What strings.Join makes of the decimals. -/
theorem jn_join (sep : UInt8) (vs : List Nat) : (⟨(Lib.join ((vs.map decA).map (·.data.toList)) [sep]).toArray⟩ : ByteArray) = jn sep vs := by
  unfold jn
  rw [List.map_map]
  have : (fun x : ByteArray => x.data.toList) ∘ decA = Lib.decDigits := by funext u; show (Lib.decDigits u).toArray.toList = _; simp
  rw [this]
theorem jn_join_len (sep : UInt8) (vs : List Nat) : (Lib.join ((vs.map decA).map (·.data.toList)) [sep]).length = (jn sep vs).size := by
  rw [← jn_join]
  show _ = (Lib.join _ _).toArray.size
  rw [List.size_toArray]
end Go.Proofs.YtickepianllblaaGreatDoor
