/- Reading of texts: the reference's reading of a number. -/
import Derived.Test.YtickepianllblaaGreatDoorUb
import Derived.Test.YtickepianllblaaGreatDoorM
namespace Go.Proofs.YtickepianllblaaGreatDoor
open Go.RowKit
set_option maxRecDepth 100000
set_option linter.unusedVariables false
set_option linter.unusedSimpArgs false

def numR (l : List UInt8) : Int × Bool := match numL l with | some n => (n, true) | none => (0, false)
theorem bytes_len (s : ByteArray) : s.data.toList.length = s.size := Array.length_toList
theorem byt_at {s : ByteArray} {k : Nat} (h : k < s.size) : byt s k = ((s.data.toList.getD k 0).toNat : Int) := rfl
theorem drop_head {l : List UInt8} {k : Nat} (h : k < l.length) : (l.drop k).head? = some (l.getD k 0) := by
  rw [List.head?_drop, List.getElem?_eq_getElem h]; simp [List.getD, List.getElem?_eq_getElem h]
theorem u8_eq {a : UInt8} {m : Nat} (hm : m < 256) : a = UInt8.ofNat m ↔ (a.toNat : Int) = (m : Int) := by
  constructor
  · rintro rfl; rw [UInt8.toNat_ofNat']; omega
  · intro h
    apply UInt8.toNat_inj.1
    rw [UInt8.toNat_ofNat']
    omega
/-- The sign's place, and what stands behind it. -/
theorem numL_drop {l : List UInt8} {a : Nat} (ha : (a = 1 ∧ l.head? = some 45) ∨ (a = 0 ∧ l.head? ≠ some 45)) :
    numL l = (numD l (l.drop a)).map (fun n : Nat => if a = 1 then -(n : Int) else (n : Int)) := by
  unfold numL
  rcases ha with ⟨rfl, h⟩ | ⟨rfl, h⟩
  · rw [if_pos h]; cases l <;> rfl
  · rw [if_neg h, List.drop_zero]; rfl
theorem valL_take {ds : List UInt8} {k : Nat} (h : k < ds.length) : valL (ds.take (k + 1)) = 10 * valL (ds.take k) + ((ds.getD k 0).toNat - 48) := by
  rw [List.take_add_one, List.getElem?_eq_getElem h]
  simp only [Option.toList_some]
  rw [valL_snoc]
  simp [List.getD, List.getElem?_eq_getElem h]
theorem valL_lt : ∀ (n : Nat) (l : List UInt8), l.length = n → l.all digB = true → valL l < 10 ^ n := by
  intro n
  induction n with
  | zero => intro l h _; rw [List.length_eq_zero_iff.1 h]; simp [valL]
  | succ n ih =>
    intro l h hd
    obtain ⟨a, b, rfl⟩ := snoc_of l (fun e => by rw [e] at h; simp at h)
    rw [List.all_append, Bool.and_eq_true] at hd
    have hb : digB b = true := by simpa using hd.2
    unfold digB at hb
    simp only [Bool.and_eq_true, decide_eq_true_eq] at hb
    have := ih a (by simpa using h) hd.1
    rw [valL_snoc, Nat.pow_succ]
    omega
theorem digB_iff (b : UInt8) : digB b = digitB (b.toNat : Int) := by
  unfold digB digitB inB
  congr 1 <;> (rw [decide_eq_decide]; omega)
theorem digitN_any (c : Int) (w : World) : Calls Tryz.prog 71 #[.int .u8 c] w fun e w' => e = .returned (.bool (digitB c)) ∧ w = w' := by
  have Hs : Hid (digitB c = (decide (48 ≤ c) && decide (c ≤ 57))) := Lib.hid rfl
  cases x1 : decide ((48 : Int) ≤ c) <;> cases x2 : decide (c ≤ 57) <;>
    (go_enter Tryz.func71, Tryz.ntmps71
     go_wp2_with fail
     go_ret
     exact ⟨ret_bool (by rw [Hs.out, x1, x2]; rfl), rfl⟩)
theorem allD_take {ds : List UInt8} {k : Nat} (h : k < ds.length) : (ds.take (k + 1)).all digB = ((ds.take k).all digB && digB (ds.getD k 0)) := by
  rw [List.take_add_one, List.getElem?_eq_getElem h, List.all_append]
  simp [List.getD, List.getElem?_eq_getElem h]
theorem allD_bad {ds : List UInt8} {k : Nat} (h : k < ds.length) (hd : digB (ds.getD k 0) = false) : ds.all digB = false := by
  cases hx : ds.all digB with
  | false => rfl
  | true =>
    rw [List.all_eq_true] at hx
    have := hx (ds.getD k 0) (by simp only [List.getD, List.getElem?_eq_getElem h, Option.getD_some]; exact List.getElem_mem _)
    rw [this] at hd; cases hd
end Go.Proofs.YtickepianllblaaGreatDoor
