/- Texts: names; the text of a mark; how two texts stand. -/
import Derived.Test.YtngbdjbgbjbjaaaGreatDoorS
import Derived.Lib.ConvBytes
import Derived.Laws.Cover1
import Derived.Laws.IdiomStrings
import Derived.Laws.Concat
namespace Go.Proofs.YtngbdjbgbjbjaaaGreatDoor
open Go.RowKit
set_option maxRecDepth 100000
set_option linter.unusedVariables false
set_option linter.unusedSimpArgs false

theorem Touch.step {w w' w2 : World} {A : Option Addr} (h : Touch w w' A) (b : Below w'.heap.size w' w2) : Touch w w2 A :=
  ⟨b.os.trans h.os, b.tape.trans h.tape, b.output.trans h.output, Nat.le_trans h.size b.size, fun k hk hn => (b.block k (Nat.lt_of_lt_of_le hk h.size)).trans (h.block k hk hn)⟩
/-- Byte k of a text. -/
def byt (s : ByteArray) (k : Nat) : Int := ((s.data.toList.getD k 0).toNat : Int)
theorem byt_bd (s : ByteArray) (k : Nat) : 0 ≤ byt s k ∧ byt s k ≤ 255 := by
  have := (s.data.toList.getD k 0).toNat_lt
  unfold byt; omega
theorem byt_get (s : ByteArray) (k : Nat) (h : k < s.size) : (s[k].toNat : Int) = byt s k := by
  have h' : k < s.data.size := h
  unfold byt
  rw [List.getD, Array.getElem?_toList, Array.getElem?_eq_getElem h']
  rfl
def smallB (c : Int) : Bool := inB c 97 122
def digitB (c : Int) : Bool := inB c 48 57
def letB (s : ByteArray) (k : Nat) : Bool := smallB (byt s k) || (!decide (k = 0) && digitB (byt s k))
def nameB (s : ByteArray) : Bool := allTo (letB s) s.size && (decide (1 ≤ s.size) && decide (s.size ≤ 10))
theorem nameB_len {s : ByteArray} (h : nameB s = true) : 1 ≤ s.size ∧ s.size ≤ 10 := by
  simp only [nameB, Bool.and_eq_true, decide_eq_true_eq] at h
  exact h.2
theorem bytes_below (w : World) (e : TypeId) (s : ByteArray) : Below w.heap.size w (Lib.bytesWorld w e s) :=
  ⟨by simp [Lib.bytesWorld, World.freeze, World.alloc, World.drew, -World.alloc_eq, -World.drew_eq], by simp [Lib.bytesWorld, World.freeze, World.alloc, World.drew, -World.alloc_eq, -World.drew_eq], by simp [Lib.bytesWorld, World.freeze, World.alloc, World.drew, -World.alloc_eq, -World.drew_eq],
    by rw [Lib.bytesWorld_size]; omega, fun k hk => Lib.bytesWorld_at_old w e s k hk⟩


/-! ### how two texts stand -/
/-- Text a stands ahead of text b. -/
def sLt (a b : ByteArray) : Bool := Op.bytesLess a.toList b.toList
theorem bytesLess_tri : ∀ (x y : List UInt8), (Op.bytesLess x y || x == y) = !Op.bytesLess y x := by
  intro x
  induction x with
  | nil => intro y; cases y <;> simp [Op.bytesLess]
  | cons a x ih =>
    intro y
    cases y with
    | nil => simp [Op.bytesLess]
    | cons b y =>
      have h := ih y
      simp only [Op.bytesLess, List.cons_beq_cons]
      by_cases he : a = b
      · subst he
        have hi : decide (a < a) = false := decide_eq_false (UInt8.lt_irrefl a)
        rw [hi]
        simp only [beq_self_eq_true, Bool.true_and, Bool.false_or]
        exact h
      · have h1 : (a == b) = false := beq_eq_false_iff_ne.2 he
        have h2 : (b == a) = false := beq_eq_false_iff_ne.2 (fun h => he h.symm)
        rw [h1, h2]
        simp only [Bool.false_and, Bool.or_false]
        by_cases hl : a < b
        · have hg : ¬ b < a := fun h' => absurd (UInt8.lt_iff_toNat_lt.1 hl) (by have := UInt8.lt_iff_toNat_lt.1 h'; omega)
          rw [decide_eq_true hl, decide_eq_false hg]; rfl
        · have hg : b < a := by
            rw [UInt8.lt_iff_toNat_lt] at hl ⊢
            have : a.toNat ≠ b.toNat := fun h => he (UInt8.toNat_inj.1 h)
            omega
          rw [decide_eq_false hl, decide_eq_true hg]; rfl
theorem sLt_tri (a b : ByteArray) : (Op.bytesLess a.toList b.toList || a.toList == b.toList) = !sLt b a := bytesLess_tri _ _

/-! ### the text of a mark -/
end Go.Proofs.YtngbdjbgbjbjaaaGreatDoor
