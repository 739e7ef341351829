/- Skills: the reference's text of skills. -/
import Derived.Test.YtpakopkmcjdfpaaDoorM
import Derived.Test.YtpakopkmcjdfpaaDoorA
import Derived.Laws.BitsAllLaws
namespace Go.Proofs.YtpakopkmcjdfpaaDoor
open Go.RowKit
set_option maxRecDepth 100000
set_option linter.unusedVariables false
set_option linter.unusedSimpArgs false

def skW (k : Nat) : ByteArray := match k with
  | 0 => ⟨#[114, 111, 112, 101]⟩
  | 1 => ⟨#[102, 105, 114, 115, 116]⟩
  | _ => ⟨#[114, 97, 100, 105, 111]⟩
def skBit (s : Nat) (k : Nat) : Bool := s / 2 ^ k % 2 == 1
def skT (s : Nat) : Nat → ByteArray
  | 0 => ⟨#[]⟩
  | k + 1 => if skBit s k then (if (skT s k).data.toList.isEmpty then skT s k else skT s k ++ ⟨#[43]⟩) ++ skW k else skT s k

theorem skBit_fin : ∀ a : Fin 8, ∀ b : Fin 3, (bits BinOp.and IntKind.i64 (((a.val : Nat) : Int) / 2 ^ b.val) 1 == 1) = skBit a.val b.val := by decide
theorem skBit_eq {s k : Nat} (hs : s ≤ 7) (hk : k < 3) : (bits BinOp.and IntKind.i64 ((s : Int) / 2 ^ k) 1 == 1) = skBit s k := skBit_fin ⟨s, by omega⟩ ⟨k, hk⟩
theorem isEmpty_eq (b : ByteArray) : b.toList.isEmpty = b.data.toList.isEmpty := by rw [ByteArray.toList_eq]
theorem skT_end {s : Nat} (hs : s ≤ 7) : (skT s 3).toList.isEmpty = decide (s = 0) := by
  have h : ∀ a : Fin 8, (skT a.val 3).data.toList.isEmpty = decide (a.val = 0) := by decide
  rw [isEmpty_eq]
  exact h ⟨s, by omega⟩
theorem three_cells (w : World) (t : TypeId) (a b c : ByteArray) : (w.alloc (.cells #[.string a, .string b, .string c] t)).cell? ⟨w.heap.size, 0, none⟩ = some (.string a) ∧ (w.alloc (.cells #[.string a, .string b, .string c] t)).cell? ⟨w.heap.size, 1, none⟩ = some (.string b) ∧ (w.alloc (.cells #[.string a, .string b, .string c] t)).cell? ⟨w.heap.size, 2, none⟩ = some (.string c) := by
  generalize Value.string a = x
  generalize Value.string b = y
  generalize Value.string c = z
  refine ⟨?_, ?_, ?_⟩ <;> simp
theorem skW_cell (w : World) (t : TypeId) {k : Nat} (hk : k < 3) : (w.alloc (.cells #[.string (skW 0), .string (skW 1), .string (skW 2)] t)).cell? ⟨w.heap.size, k, none⟩ = some (.string (skW k)) := by
  obtain ⟨h0, h1, h2⟩ := three_cells w t (skW 0) (skW 1) (skW 2)
  match k, hk with
  | 0, _ => exact h0
  | 1, _ => exact h1
  | 2, _ => exact h2
theorem skT_size {s k : Nat} (hs : s ≤ 7) (hk : k ≤ 3) : (skT s k).size ≤ 40 := by
  have h : ∀ a : Fin 8, ∀ b : Fin 4, (skT a.val b.val).size ≤ 40 := by decide
  exact h ⟨s, by omega⟩ ⟨k, by omega⟩
theorem skW_size (k : Nat) : (skW k).size ≤ 5 := by
  match k with
  | 0 => decide
  | 1 => decide
  | _ + 2 => exact (by decide : (ByteArray.mk #[114, 97, 100, 105, 111]).size ≤ 5)

def skSay (s : Nat) : ByteArray := if s = 0 then ⟨#[110, 111, 110, 101]⟩ else skT s 3
theorem ret_str {x y : ByteArray} (h : x = y) : Ending.returned (.string x) = Ending.returned (.string y) := by rw [h]
theorem l24SkillText_any {s : Nat} (hs : s ≤ 7) {w : World} :
    Calls Tryd.prog 24 #[.int .i64 (s : Int)] w fun e w' => e = .returned (.string (skSay s)) ∧ Below w.heap.size w w' := by
  go_enter Tryd.func24, Tryd.ntmps24
  go_wp2_with fail
  go_loopg [3, 5] 3 (fun gk vt vk wr => ∃ k : Nat, k ≤ 3 ∧ gk + k = 3 ∧ vk = .int .i64 k ∧ vt = .string (skT s k) ∧ Below (w.heap.size + 1) (w.alloc (.cells #[.string (skW 0), .string (skW 1), .string (skW 2)] 9)) wr)
  case atStart => exact ⟨0, by omega, by omega, rfl, rfl, Below.refl _ _⟩
  case round =>
    obtain ⟨k, hk, hgk, rfl, rfl, hb⟩ := hrel
    have Hgk := Lib.hid hgk
    clear hgk
    have hbs := hb.size
    have hbs2 : w.heap.size + 1 ≤ wr.heap.size := by simpa using hbs
    have hqk : IntKind.i64.wrap ((k : Int) + 1) = (k : Int) + 1 := IntWalk.i64_in _ (by omega)
    by_cases hlt : k < 3
    · have hd : (k : Int) < 3 := by omega
      have cK : wr.cell? ⟨w.heap.size, k, none⟩ = some (.string (skW k)) := (hb.cell (by simp)).trans (skW_cell w _ hlt)
      have hbit := skBit_eq hs hlt
      have Hs : Hid (skT s (k + 1) = if skBit s k then (if (skT s k).data.toList.isEmpty then skT s k else skT s k ++ ⟨#[43]⟩) ++ skW k else skT s k) := Lib.hid rfl
      have hsz := skT_size hs hk
      have hwz := skW_size k
      generalize skW k = wk at *
      have hz1 : ¬ 9223372036854775807 < (skT s k).size + 1 := by omega
      have hz2 : ¬ 9223372036854775807 < (skT s k).size + 1 + wk.size := by omega
      have hz3 : ¬ 9223372036854775807 < (skT s k).size + wk.size := by omega
      cases e1 : skBit s k with
      | false =>
        rw [e1] at hbit Hs
        have Hs2 : Hid (skT s (k + 1) = skT s k) := Lib.hid (by rw [Hs.out]; rfl)
        go_wp2_with fail
        have hgk := Hgk.out
        go_roundg (gk - 1)
        case rel => exact ⟨k + 1, by omega, by omega, by go_num, by rw [Hs2.out], hb⟩
        case measure => omega
      | true =>
        rw [e1] at hbit Hs
        rw [← isEmpty_eq] at Hs
        cases e2 : (skT s k).toList.isEmpty with
        | true =>
          rw [e2] at Hs
          have Hs2 : Hid (skT s (k + 1) = skT s k ++ wk) := Lib.hid (by rw [Hs.out]; rfl)
          go_wp2_with fail
          have hgk := Hgk.out
          go_roundg (gk - 1)
          case rel => exact ⟨k + 1, by omega, by omega, by go_num, by rw [Hs2.out], hb⟩
          case measure => omega
        | false =>
          rw [e2] at Hs
          have Hs2 : Hid (skT s (k + 1) = skT s k ++ ⟨#[43]⟩ ++ wk) := Lib.hid (by rw [Hs.out]; rfl)
          go_wp2_with fail
          have hgk := Hgk.out
          go_roundg (gk - 1)
          case rel => exact ⟨k + 1, by omega, by omega, by go_num, by rw [Hs2.out], hb⟩
          case measure => omega
    · have hke : k = 3 := by omega
      subst hke
      have hd : ¬ ((3 : Nat) : Int) < 3 := by omega
      have e3 := skT_end hs
      by_cases hz : s = 0
      · subst hz
        have e4 : skT 0 3 = ⟨#[]⟩ := rfl
        rw [e4]
        go_wp2_with fail
        go_ret
        exact ⟨ret_str rfl, ((Below.refl _ _).alloc (Nat.le_refl _) _).trans (hb.mono (by simp))⟩
      · rw [decide_eq_false hz] at e3
        go_wp2_with fail
        go_ret
        exact ⟨ret_str (by rw [skSay, if_neg hz]), ((Below.refl _ _).alloc (Nat.le_refl _) _).trans (hb.mono (by simp))⟩
end Go.Proofs.YtpakopkmcjdfpaaDoor
