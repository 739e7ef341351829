/- Texts: names; the text of a mark; how two texts stand. -/
import Derived.Test.YtickepianllblaaGreatDoorS
import Derived.Lib.ConvBytes
import Derived.Laws.Cover1
import Derived.Laws.IdiomStrings
import Derived.Laws.Concat
namespace Go.Proofs.YtickepianllblaaGreatDoor
open Go.RowKit
set_option maxRecDepth 100000
set_option linter.unusedVariables false
set_option linter.unusedSimpArgs false

theorem Touch.step {w w' w2 : World} {A : Option Addr} (h : Touch w w' A) (b : Below w'.heap.size w' w2) : Touch w w2 A :=
  ⟨b.os.trans h.os, b.tape.trans h.tape, b.output.trans h.output, Nat.le_trans h.size b.size, fun k hk hn => (b.block k (Nat.lt_of_lt_of_le hk h.size)).trans (h.block k hk hn)⟩
/-- Byte k of a text. -/
def byt (s : ByteArray) (k : Nat) : Int := ((s.data.toList.getD k 0).toNat : Int)
theorem byt_bd (s : ByteArray) (k : Nat) : 0 ≤ byt s k ∧ byt s k ≤ 255 := by
  have := (s.data.toList.getD k 0).toNat_lt
  unfold byt; omega
theorem byt_get (s : ByteArray) (k : Nat) (h : k < s.size) : (s[k].toNat : Int) = byt s k := by
  have h' : k < s.data.size := h
  unfold byt
  rw [List.getD, Array.getElem?_toList, Array.getElem?_eq_getElem h']
  rfl
def smallB (c : Int) : Bool := inB c 97 122
def digitB (c : Int) : Bool := inB c 48 57
def letB (s : ByteArray) (k : Nat) : Bool := smallB (byt s k) || (!decide (k = 0) && digitB (byt s k))
def nameB (s : ByteArray) : Bool := allTo (letB s) s.size && (decide (1 ≤ s.size) && decide (s.size ≤ 10))
theorem nameB_len {s : ByteArray} (h : nameB s = true) : 1 ≤ s.size ∧ s.size ≤ 10 := by
  simp only [nameB, Bool.and_eq_true, decide_eq_true_eq] at h
  exact h.2
theorem bytes_below (w : World) (e : TypeId) (s : ByteArray) : Below w.heap.size w (Lib.bytesWorld w e s) :=
  ⟨by simp [Lib.bytesWorld, World.freeze, World.alloc, World.drew, -World.alloc_eq, -World.drew_eq], by simp [Lib.bytesWorld, World.freeze, World.alloc, World.drew, -World.alloc_eq, -World.drew_eq], by simp [Lib.bytesWorld, World.freeze, World.alloc, World.drew, -World.alloc_eq, -World.drew_eq],
    by rw [Lib.bytesWorld_size]; omega, fun k hk => Lib.bytesWorld_at_old w e s k hk⟩

set_option maxHeartbeats 1000000 in
theorem isName_any (s : ByteArray) (w : World) (hs : s.size ≤ 1048576) : Calls Tryz.prog 48 #[.string s] w fun e w' => e = .returned (.bool (nameB s)) ∧ Below w.heap.size w w' := by
  by_cases h1 : s.size < 1
  · have Hr : Hid (nameB s = false) := Lib.hid (by simp only [nameB]; rw [decide_eq_false (show ¬ 1 ≤ s.size by omega)]; simp)
    have e1 : decide ((s.size : Int) < 1) = true := by simp; omega
    go_enter Tryz.func48, Tryz.ntmps48
    go_wp2_with fail
    go_ret
    exact ⟨ret_bool (by rw [Hr.out]), Below.refl _ _⟩
  have e1 : decide ((s.size : Int) < 1) = false := by simp; omega
  by_cases h2 : 10 < s.size
  · have Hr : Hid (nameB s = false) := Lib.hid (by simp only [nameB]; rw [decide_eq_false (show ¬ s.size ≤ 10 by omega)]; simp)
    have e2 : decide (10 < (s.size : Int)) = true := by simp; omega
    go_enter Tryz.func48, Tryz.ntmps48
    go_wp2_with fail
    go_ret
    exact ⟨ret_bool (by rw [Hr.out]), Below.refl _ _⟩
  have e2 : decide (10 < (s.size : Int)) = false := by simp; omega
  obtain ⟨cap, w1, hconv, hcell, hb1⟩ : ∃ cap w1, (convert 9 22 (.string s)).run Tryz.prog w = .ok (.slice (some ⟨w.heap.size, 0, none⟩) s.size cap) w1 ∧ (∀ j, j < s.size → w1.cell? ⟨w.heap.size, j, none⟩ = some (.int .u8 (byt s j))) ∧ Below w.heap.size w w1 :=
    ⟨_, _, Lib.run_convert_string_bytes w _ _ _ s Tryz.underlying9 Tryz.underlying22 Tryz.underlying5, fun j hj => Lib.bytesWorld_cell w _ s j hj, bytes_below w _ s⟩
  go_enter Tryz.func48, Tryz.ntmps48
  go_wp2_with fail
  go_loopg [18] s.size (fun gk i wr => ∃ k : Nat, k ≤ s.size ∧ gk + k = s.size ∧ i = .int .i64 k ∧ wr = w1 ∧ allTo (letB s) k = true)
  case atStart => exact ⟨0, Nat.zero_le _, rfl, rfl, rfl, rfl⟩
  case round =>
    obtain ⟨k, hk, hgk, rfl, rfl, hall⟩ := hrel
    have Hgk := Lib.hid hgk
    have Hall := Lib.hid hall
    clear hgk hall
    by_cases hlt : k < s.size
    · have hc := hcell k hlt
      have hbd := byt_bd s k
      have Hlet : Hid (letB s k = (inB (byt s k) 97 122 || (!decide (k = 0) && inB (byt s k) 48 57))) := Lib.hid rfl
      generalize byt s k = b at *
      have hk0 : (0 : Int) ≤ (k : Int) := by omega
      have hk1 : (k : Int) < (s.size : Int) := by omega
      have hq : IntKind.i64.wrap ((k : Int) + 1) = (k : Int) + 1 := IntWalk.i64_in _ (by omega)
      have Hcell := Lib.hid hcell
      clear hcell
      rcases (show (97 ≤ b ∧ b ≤ 122) ∨ (48 ≤ b ∧ b ≤ 57) ∨ b < 48 ∨ (57 < b ∧ b < 97) ∨ 122 < b by omega) with hcl | hcl | hcl | hcl | hcl
      · have x1 : decide ((97 : Int) ≤ b) = true := by simp; omega
        have x2 : decide (b ≤ 122) = true := by simp; omega
        have x3 : decide ((48 : Int) ≤ b) = true := by simp; omega
        have x4 : decide (b ≤ 57) = false := by simp; omega
        have Hs : Hid (letB s k = true) := Lib.hid (by rw [Hlet.out]; simp [inB, x1, x2, x3, x4])
        go_wp2_with fail
        have hgk := Hgk.out
        go_roundg (gk - 1)
        case rel => exact ⟨k + 1, by omega, by omega, by go_num, rfl, by rw [allTo_succ, Hall.out, Hs.out]; rfl⟩
        case measure => omega
      · have x1 : decide ((97 : Int) ≤ b) = false := by simp; omega
        have x2 : decide (b ≤ 122) = true := by simp; omega
        have x3 : decide ((48 : Int) ≤ b) = true := by simp; omega
        have x4 : decide (b ≤ 57) = true := by simp; omega
        by_cases hz : k = 0
        · have z1 : ((k : Int) == 0) = true := by simp [hz]
          have z2 : decide (k = 0) = true := by simp [hz]
          have Hz := Lib.hid hz
          clear hz
          have Hs : Hid (letB s k = false) := Lib.hid (by rw [Hlet.out]; simp [inB, x1, x2, x3, x4, z2])
          go_wp2_with fail
          go_ret
          exact ⟨ret_bool (by rw [nameB, allTo_false (k := k) hlt Hs.out]; rfl), hb1⟩
        · have z1 : ((k : Int) == 0) = false := by simp [hz]
          have z2 : decide (k = 0) = false := by simp [hz]
          have Hz := Lib.hid hz
          clear hz
          have Hs : Hid (letB s k = true) := Lib.hid (by rw [Hlet.out]; simp [inB, x1, x2, x3, x4, z2])
          go_wp2_with fail
          have hgk := Hgk.out
          go_roundg (gk - 1)
          case rel => exact ⟨k + 1, by omega, by omega, by go_num, rfl, by rw [allTo_succ, Hall.out, Hs.out]; rfl⟩
          case measure => omega
      · have x1 : decide ((97 : Int) ≤ b) = false := by simp; omega
        have x2 : decide (b ≤ 122) = true := by simp; omega
        have x3 : decide ((48 : Int) ≤ b) = false := by simp; omega
        have x4 : decide (b ≤ 57) = true := by simp; omega
        by_cases hz : k = 0
        · have z1 : ((k : Int) == 0) = true := by simp [hz]
          have Hz := Lib.hid hz
          clear hz
          have Hs : Hid (letB s k = false) := Lib.hid (by rw [Hlet.out]; simp [inB, x1, x2, x3, x4])
          go_wp2_with fail
          go_ret
          exact ⟨ret_bool (by rw [nameB, allTo_false (k := k) hlt Hs.out]; rfl), hb1⟩
        · have z1 : ((k : Int) == 0) = false := by simp [hz]
          have Hz := Lib.hid hz
          clear hz
          have Hs : Hid (letB s k = false) := Lib.hid (by rw [Hlet.out]; simp [inB, x1, x2, x3, x4])
          go_wp2_with fail
          go_ret
          exact ⟨ret_bool (by rw [nameB, allTo_false (k := k) hlt Hs.out]; rfl), hb1⟩
      · have x1 : decide ((97 : Int) ≤ b) = false := by simp; omega
        have x2 : decide (b ≤ 122) = true := by simp; omega
        have x3 : decide ((48 : Int) ≤ b) = true := by simp; omega
        have x4 : decide (b ≤ 57) = false := by simp; omega
        by_cases hz : k = 0
        · have z1 : ((k : Int) == 0) = true := by simp [hz]
          have Hz := Lib.hid hz
          clear hz
          have Hs : Hid (letB s k = false) := Lib.hid (by rw [Hlet.out]; simp [inB, x1, x2, x3, x4])
          go_wp2_with fail
          go_ret
          exact ⟨ret_bool (by rw [nameB, allTo_false (k := k) hlt Hs.out]; rfl), hb1⟩
        · have z1 : ((k : Int) == 0) = false := by simp [hz]
          have Hz := Lib.hid hz
          clear hz
          have Hs : Hid (letB s k = false) := Lib.hid (by rw [Hlet.out]; simp [inB, x1, x2, x3, x4])
          go_wp2_with fail
          go_ret
          exact ⟨ret_bool (by rw [nameB, allTo_false (k := k) hlt Hs.out]; rfl), hb1⟩
      · have x1 : decide ((97 : Int) ≤ b) = true := by simp; omega
        have x2 : decide (b ≤ 122) = false := by simp; omega
        have x3 : decide ((48 : Int) ≤ b) = true := by simp; omega
        have x4 : decide (b ≤ 57) = false := by simp; omega
        by_cases hz : k = 0
        · have z1 : ((k : Int) == 0) = true := by simp [hz]
          have Hz := Lib.hid hz
          clear hz
          have Hs : Hid (letB s k = false) := Lib.hid (by rw [Hlet.out]; simp [inB, x1, x2, x3, x4])
          go_wp2_with fail
          go_ret
          exact ⟨ret_bool (by rw [nameB, allTo_false (k := k) hlt Hs.out]; rfl), hb1⟩
        · have z1 : ((k : Int) == 0) = false := by simp [hz]
          have Hz := Lib.hid hz
          clear hz
          have Hs : Hid (letB s k = false) := Lib.hid (by rw [Hlet.out]; simp [inB, x1, x2, x3, x4])
          go_wp2_with fail
          go_ret
          exact ⟨ret_bool (by rw [nameB, allTo_false (k := k) hlt Hs.out]; rfl), hb1⟩
    · have hke : s.size = k := by omega
      have Hr : Hid (nameB s = true) := Lib.hid (by rw [nameB, hke, Hall.out, ← hke, decide_eq_true (show 1 ≤ s.size by omega), decide_eq_true (show s.size ≤ 10 by omega)]; rfl)
      have hd : ¬ (k : Int) < (s.size : Int) := by omega
      go_wp2_with fail
      go_ret
      exact ⟨ret_bool (by rw [Hr.out]), hb1⟩
theorem small_any (c : Int) (w : World) : Calls Tryz.prog 70 #[.int .u8 c] w fun e w' => e = .returned (.bool (smallB c)) ∧ w = w' := by
  have Hs : Hid (smallB c = (decide (97 ≤ c) && decide (c ≤ 122))) := Lib.hid rfl
  cases x1 : decide ((97 : Int) ≤ c) <;> cases x2 : decide (c ≤ 122) <;>
    (go_enter Tryz.func70, Tryz.ntmps70
     go_wp2_with fail
     go_ret
     exact ⟨ret_bool (by rw [Hs.out, x1, x2]; rfl), rfl⟩)
theorem digit_any (c : Int) (w : World) : Calls Tryz.prog 71 #[.int .u8 c] w fun e w' => e = .returned (.bool (digitB c)) ∧ w = w' := by
  have Hs : Hid (digitB c = (decide (48 ≤ c) && decide (c ≤ 57))) := Lib.hid rfl
  cases x1 : decide ((48 : Int) ≤ c) <;> cases x2 : decide (c ≤ 57) <;>
    (go_enter Tryz.func71, Tryz.ntmps71
     go_wp2_with fail
     go_ret
     exact ⟨ret_bool (by rw [Hs.out, x1, x2]; rfl), rfl⟩)
theorem l01Name_any (s : ByteArray) (w : World) (hs : s.size ≤ 1048576) : Calls Tryz.prog 58 #[.string s] w fun e w' => e = .returned (.bool (nameB s)) ∧ w = w' := by
  by_cases h1 : s.size < 1
  · have Hr : Hid (nameB s = false) := Lib.hid (by simp only [nameB]; rw [decide_eq_false (show ¬ 1 ≤ s.size by omega)]; simp)
    have hse : s = ⟨#[]⟩ := by
      obtain ⟨d⟩ := s
      have : d = #[] := Array.eq_empty_of_size_eq_zero (by change d.size < 1 at h1; omega)
      rw [this]
    subst hse
    go_enter Tryz.func58, Tryz.ntmps58
    go_wp2_with fail
    go_ret
    exact ⟨ret_bool (by rw [Hr.out]), rfl⟩
  have hemp : s.toList.isEmpty = false := by
    rw [List.isEmpty_eq_false_iff]
    intro h0
    have := congrArg List.length h0
    rw [ByteArray.toList_eq] at this
    have e : s.data.toList.length = s.size := Array.length_toList
    simp only [List.length_nil] at this
    omega
  have hne' : ¬ s.toList = [] := by rw [List.isEmpty_eq_false_iff] at hemp; exact hemp
  by_cases h2 : 10 < s.size
  · have Hr : Hid (nameB s = false) := Lib.hid (by simp only [nameB]; rw [decide_eq_false (show ¬ s.size ≤ 10 by omega)]; simp)
    have e2 : decide (10 < (s.size : Int)) = true := by simp; omega
    have e3 : (10 : Int) < (s.size : Int) := by omega
    go_enter Tryz.func58, Tryz.ntmps58
    go_wp2_with fail
    all_goals go_ret
    all_goals exact ⟨ret_bool (by rw [Hr.out]), rfl⟩
  have e2 : decide (10 < (s.size : Int)) = false := by simp; omega
  have hpos : 0 < s.size := by omega
  have b0 := byt_get s 0 hpos
  cases v0 : smallB (byt s 0) with
  | false =>
    have Hr : Hid (nameB s = false) := Lib.hid (by rw [nameB, allTo_false (k := 0) hpos (by rw [letB, v0]; simp)]; rfl)
    have q0 : smallB (s[0].toNat : Int) = false := by rw [b0]; exact v0
    go_enter Tryz.func58, Tryz.ntmps58
    go_wp2_with (go_at_call 70; refine (small_any _ _).mono ?_; rintro e w' ⟨rfl, rfl⟩)
    all_goals go_ret
    all_goals exact ⟨ret_bool (by rw [Hr.out]), rfl⟩
  | true =>
    have q0 : smallB (s[0].toNat : Int) = true := by rw [b0]; exact v0
    have V0 := Lib.hid v0
    clear v0 b0
    go_enter Tryz.func58, Tryz.ntmps58
    go_wp2_with (go_at_call 70; refine (small_any _ _).mono ?_; rintro e w' ⟨rfl, rfl⟩)
    go_loopg [3] s.size (fun gk i wr => ∃ k : Nat, k ≤ s.size ∧ gk + k = s.size ∧ i = .int .i64 k ∧ w = wr ∧ allTo (letB s) k = true)
    case atStart => exact ⟨0, Nat.zero_le _, rfl, rfl, rfl, rfl⟩
    case round =>
      obtain ⟨k, hk, hgk, rfl, rfl, hall⟩ := hrel
      have Hgk := Lib.hid hgk
      have Hall := Lib.hid hall
      clear hgk hall q0
      by_cases hlt : k < s.size
      · have bk := byt_get s k hlt
        have Hlet : Hid (letB s k = (smallB (byt s k) || (!decide (k = 0) && digitB (byt s k)))) := Lib.hid rfl
        have hk0 : (0 : Int) ≤ (k : Int) := by omega
        have hk1 : (k : Int) < (s.size : Int) := by omega
        have hq : IntKind.i64.wrap ((k : Int) + 1) = (k : Int) + 1 := IntWalk.i64_in _ (by omega)
        cases v1 : smallB (byt s k) with
        | true =>
          have q1 : smallB (s[k].toNat : Int) = true := by rw [bk]; exact v1
          have Hs : Hid (letB s k = true) := Lib.hid (by rw [Hlet.out, v1]; rfl)
          clear bk v1 Hlet
          go_wp2_with (first | (go_at_call 70; refine (small_any _ _).mono ?_; rintro e w' ⟨rfl, rfl⟩) | (go_at_call 71; refine (digit_any _ _).mono ?_; rintro e w' ⟨rfl, rfl⟩))
          have hgk := Hgk.out
          go_roundg (gk - 1)
          case rel => exact ⟨k + 1, by omega, by omega, by go_num, rfl, by rw [allTo_succ, Hall.out, Hs.out]; rfl⟩
          case measure => omega
        | false =>
          have q1 : smallB (s[k].toNat : Int) = false := by rw [bk]; exact v1
          have hkz : decide (k = 0) = false := by
            cases hd : decide (k = 0) with
            | false => rfl
            | true =>
              have hk0 : k = 0 := of_decide_eq_true hd
              rw [hk0, V0.out] at v1; cases v1
          cases v2 : digitB (byt s k) with
          | true =>
            have q2 : digitB (s[k].toNat : Int) = true := by rw [bk]; exact v2
            have Hs : Hid (letB s k = true) := Lib.hid (by rw [Hlet.out, v1, v2, hkz]; rfl)
            clear bk v1 v2 Hlet hkz
            go_wp2_with (first | (go_at_call 70; refine (small_any _ _).mono ?_; rintro e w' ⟨rfl, rfl⟩) | (go_at_call 71; refine (digit_any _ _).mono ?_; rintro e w' ⟨rfl, rfl⟩))
            have hgk := Hgk.out
            go_roundg (gk - 1)
            case rel => exact ⟨k + 1, by omega, by omega, by go_num, rfl, by rw [allTo_succ, Hall.out, Hs.out]; rfl⟩
            case measure => omega
          | false =>
            have q2 : digitB (s[k].toNat : Int) = false := by rw [bk]; exact v2
            have Hs : Hid (letB s k = false) := Lib.hid (by rw [Hlet.out, v1, v2, hkz]; rfl)
            clear bk v1 v2 Hlet hkz
            go_wp2_with (first | (go_at_call 70; refine (small_any _ _).mono ?_; rintro e w' ⟨rfl, rfl⟩) | (go_at_call 71; refine (digit_any _ _).mono ?_; rintro e w' ⟨rfl, rfl⟩))
            go_ret
            exact ⟨ret_bool (by rw [nameB, allTo_false (k := k) hlt Hs.out]; rfl), rfl⟩
      · have hke : s.size = k := by omega
        have Hr : Hid (nameB s = true) := Lib.hid (by rw [nameB, hke, Hall.out, ← hke, decide_eq_true (show 1 ≤ s.size by omega), decide_eq_true (show s.size ≤ 10 by omega)]; rfl)
        have hd : ¬ (k : Int) < (s.size : Int) := by omega
        go_wp2_with fail
        go_ret
        exact ⟨ret_bool (by rw [Hr.out]), rfl⟩

/-! ### how two texts stand -/
/-- Text a stands ahead of text b. -/
def sLt (a b : ByteArray) : Bool := Op.bytesLess a.toList b.toList
theorem bytesLess_tri : ∀ (x y : List UInt8), (Op.bytesLess x y || x == y) = !Op.bytesLess y x := by
  intro x
  induction x with
  | nil => intro y; cases y <;> simp [Op.bytesLess]
  | cons a x ih =>
    intro y
    cases y with
    | nil => simp [Op.bytesLess]
    | cons b y =>
      have h := ih y
      simp only [Op.bytesLess, List.cons_beq_cons]
      by_cases he : a = b
      · subst he
        have hi : decide (a < a) = false := decide_eq_false (UInt8.lt_irrefl a)
        rw [hi]
        simp only [beq_self_eq_true, Bool.true_and, Bool.false_or]
        exact h
      · have h1 : (a == b) = false := beq_eq_false_iff_ne.2 he
        have h2 : (b == a) = false := beq_eq_false_iff_ne.2 (fun h => he h.symm)
        rw [h1, h2]
        simp only [Bool.false_and, Bool.or_false]
        by_cases hl : a < b
        · have hg : ¬ b < a := fun h' => absurd (UInt8.lt_iff_toNat_lt.1 hl) (by have := UInt8.lt_iff_toNat_lt.1 h'; omega)
          rw [decide_eq_true hl, decide_eq_false hg]; rfl
        · have hg : b < a := by
            rw [UInt8.lt_iff_toNat_lt] at hl ⊢
            have : a.toNat ≠ b.toNat := fun h => he (UInt8.toNat_inj.1 h)
            omega
          rw [decide_eq_false hl, decide_eq_true hg]; rfl
theorem sLt_tri (a b : ByteArray) : (Op.bytesLess a.toList b.toList || a.toList == b.toList) = !sLt b a := bytesLess_tri _ _

/-! ### the text of a mark -/
end Go.Proofs.YtickepianllblaaGreatDoor
