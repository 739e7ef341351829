/- Texts of numbers: the decimal digits, as a plain list. -/
import Derived.Test.YtickepianllblaaGreatDoorX
import Derived.Lib.ItoaNum
import Derived.Lib.ItoaLen
namespace Go.Proofs.YtickepianllblaaGreatDoor
open Go.RowKit
set_option maxRecDepth 100000
set_option linter.unusedVariables false
set_option linter.unusedSimpArgs false

/-- The digits of u, the last one first; none of 0. -/
def revDec (u : Nat) : List UInt8 := if h : u = 0 then [] else UInt8.ofNat (48 + u % 10) :: revDec (u / 10)
termination_by u
decreasing_by omega
theorem revDec_zero : revDec 0 = [] := by rw [revDec, dif_pos rfl]
theorem revDec_pos {u : Nat} (h : 0 < u) : revDec u = UInt8.ofNat (48 + u % 10) :: revDec (u / 10) := by rw [revDec, dif_neg (by omega)]
theorem revDec_dec : ∀ u, 0 < u → (revDec u).reverse = Lib.decDigits u := by
  intro u
  induction u using Nat.strongRecOn with
  | ind u ih =>
    intro h
    rw [revDec_pos h, List.reverse_cons]
    by_cases h10 : u < 10
    · rw [Lib.decDigits_one h10, show u / 10 = 0 by omega, revDec_zero, show u % 10 = u by omega]; rfl
    · have e : Lib.decDigits u = Lib.decDigits (u / 10) ++ [UInt8.ofNat (48 + u % 10)] := by rw [Lib.decDigits, dif_neg h10]
      rw [ih (u / 10) (by omega) (by omega), e]
def decA (u : Nat) : ByteArray := ⟨(Lib.decDigits u).toArray⟩
theorem decA_zero : decA 0 = ⟨#[48]⟩ := by unfold decA; rw [Lib.decDigits_one (by omega)]; rfl
theorem itoa_nat (u : Nat) : (⟨(Lib.itoa (u : Int)).toArray⟩ : ByteArray) = decA u := by
  unfold Lib.itoa decA
  rw [if_neg (by omega)]; rfl
theorem dec_len (u : Nat) (h : u < 18446744073709551616) : (Lib.decDigits u).length ≤ 20 := by rw [Lib.decDigits_length]; exact Lib.nDigits_le20 u h
theorem decA_size (u : Nat) (h : u < 18446744073709551616) : (decA u).size ≤ 20 := by
  show (Lib.decDigits u).toArray.size ≤ 20
  rw [List.size_toArray]; exact dec_len u h
theorem decA_pos (u : Nat) : 1 ≤ (decA u).size := by
  show 1 ≤ (Lib.decDigits u).toArray.size
  rw [List.size_toArray, Lib.decDigits_length]; exact Lib.nDigits_pos u
theorem revDec_len {u : Nat} (h0 : 0 < u) (h : u < 18446744073709551616) : (revDec u).length ≤ 20 := by
  have := dec_len u h
  rw [← revDec_dec u h0, List.length_reverse] at this
  exact this
/-- Bytes as cells. -/
def u8s (l : List UInt8) : List Value := l.map (fun b => .int .u8 (b.toNat : Int))
theorem u8s_append (a b : List UInt8) : u8s (a ++ b) = u8s a ++ u8s b := List.map_append
theorem u8s_len (a : List UInt8) : (u8s a).length = a.length := by simp [u8s]
theorem u8_digit (u : Nat) : ((UInt8.ofNat (48 + u % 10)).toNat : Int) = 48 + (u : Int) % 10 := by
  have : (UInt8.ofNat (48 + u % 10)).toNat = 48 + u % 10 := by simp; omega
  rw [this]; omega
end Go.Proofs.YtickepianllblaaGreatDoor
