/- Skills: ReadSkills: contracts of both sides. -/
import Derived.Test.YteobefanhicjkaaSb
namespace Go.Proofs.Yteobefanhicjkaa
open Go.RowKit
set_option maxRecDepth 100000
set_option linter.unusedVariables false
set_option linter.unusedSimpArgs false

/-- The first skills from k on, at most f of them, whose text is b. -/
def rdFrom (b : ByteArray) : Nat → Nat → Int × Bool
  | 0, _ => (0, false)
  | f + 1, k => if (skSay k).toList == b.toList then ((k : Int), true) else rdFrom b f (k + 1)
def rRead (b : ByteArray) : Int × Bool := rdFrom b 8 0

theorem l24ReadSkills_any {b : ByteArray} {w : World} (hz : b.size ≤ 1048576) :
    Calls Try.prog 58 #[.string b] w fun e w' => e = .returned (.tuple #[.int .i64 (rRead b).1, .bool (rRead b).2]) ∧ Below w.heap.size w w' := by
  obtain ⟨R, hR⟩ : ∃ R, rRead b = R := ⟨_, rfl⟩
  rw [hR]
  have HR0 : Hid (rdFrom b 8 0 = R) := Lib.hid hR
  clear hR
  go_enter Try.func58, Try.ntmps58
  go_wp2_with fail
  go_loopg [4] 8 (fun gk vk wr => ∃ k : Nat, k ≤ 8 ∧ gk + k = 8 ∧ vk = .int .i64 k ∧ Hid (rdFrom b gk k = R) ∧ Below w.heap.size w wr)
  case atStart => exact ⟨0, by omega, by omega, rfl, HR0, Below.refl _ _⟩
  case round =>
    obtain ⟨k, hk, hgk, rfl, HR, hb⟩ := hrel
    have hbs := hb.size
    have hqk : IntKind.i64.wrap ((k : Int) + 1) = (k : Int) + 1 := IntWalk.i64_in _ (by omega)
    by_cases hlt : k < 8
    · have hd : (k : Int) ≤ 7 := by omega
      obtain ⟨g, rfl⟩ : ∃ g, gk = g + 1 := ⟨gk - 1, by omega⟩
      have hg : g + k = 7 := by omega
      clear hgk
      go_wp2_with fail
      refine (l24SkillText_any (by omega)).mono ?_
      rintro e w1 ⟨rfl, b1⟩
      have hb1 := hb.trans (b1.mono hbs)
      have HR2 : Hid ((if (skSay k).toList == b.toList then ((k : Int), true) else rdFrom b g (k + 1)) = R) := HR
      clear HR b1 hb
      generalize skSay k = y at *
      cases e1 : (y.toList == b.toList) with
      | true =>
        have HR3 : Hid (((k : Int), true) = R) := Lib.hid (by have := HR2.out; rwa [if_pos e1] at this)
        clear HR2
        go_wp2_with fail
        go_ret2
        have := HR3.out
        subst this
        exact ⟨rfl, hb1⟩
      | false =>
        have HR3 : Hid (rdFrom b g (k + 1) = R) := Lib.hid (by have := HR2.out; rwa [if_neg (by rw [e1]; exact Bool.false_ne_true)] at this)
        clear HR2
        go_wp2_with fail
        go_roundg g
        case rel => exact ⟨k + 1, by omega, by omega, by go_num, HR3, hb1⟩
        case measure => omega
    · have hke : k = 8 := by omega
      subst hke
      have hg0 : gk = 0 := by omega
      subst hg0
      have hd : ¬ ((8 : Nat) : Int) ≤ 7 := by omega
      go_wp2_with fail
      go_ret2
      have := HR.out
      subst this
      exact ⟨rfl, hb⟩

theorem specReadSkills_any {b : ByteArray} {w : World} (hz : b.size ≤ 1048576) :
    Calls Try.prog 20 #[.string b] w fun e w' => e = .returned (.tuple #[.int .i64 (rRead b).1, .bool (rRead b).2]) ∧ Below w.heap.size w w' := by
  go_enter Try.func20, Try.ntmps20
  go_wp2_with fail
  refine (l24ReadSkills_any hz).mono ?_
  rintro e w1 ⟨rfl, b1⟩
  go_wp2_with fail
  go_ret2
  exact ⟨rfl, b1⟩

theorem implReadSkills_any {b : ByteArray} {w : World} (hz : b.size ≤ 1048576) :
    Calls Try.prog 21 #[.string b] w fun e w' => e = .returned (.tuple #[.int .i64 (rRead b).1, .bool (rRead b).2]) ∧ Below w.heap.size w w' := by
  obtain ⟨R, hR⟩ : ∃ R, rRead b = R := ⟨_, rfl⟩
  rw [hR]
  have HR0 : Hid (rdFrom b 8 0 = R) := Lib.hid hR
  clear hR
  go_enter Try.func21, Try.ntmps21
  go_wp2_with fail
  go_loopg [5] 8 (fun gk vk wr => ∃ k : Nat, k ≤ 8 ∧ gk + k = 8 ∧ vk = .int .i64 k ∧ Hid (rdFrom b gk k = R) ∧ Below w.heap.size w wr)
  case atStart => exact ⟨0, by omega, by omega, rfl, HR0, Below.refl _ _⟩
  case round =>
    obtain ⟨k, hk, hgk, rfl, HR, hb⟩ := hrel
    have hbs := hb.size
    have hqk : IntKind.i64.wrap ((k : Int) + 1) = (k : Int) + 1 := IntWalk.i64_in _ (by omega)
    by_cases hlt : k < 8
    · have hd : (k : Int) < 8 := by omega
      obtain ⟨g, rfl⟩ : ∃ g, gk = g + 1 := ⟨gk - 1, by omega⟩
      have hg : g + k = 7 := by omega
      have hsk : rSkill (k : Int) = skSay k := by rw [rSkill, if_pos (inB_true.2 (by omega))]; rfl
      clear hgk
      go_wp2_with fail
      refine (implSkillText_any (s := (k : Int))).mono ?_
      rintro e w1 ⟨rfl, b1⟩
      rw [hsk]
      have hb1 := hb.trans (b1.mono hbs)
      have HR2 : Hid ((if (skSay k).toList == b.toList then ((k : Int), true) else rdFrom b g (k + 1)) = R) := HR
      clear HR b1 hb hsk
      generalize skSay k = y at *
      cases e1 : (y.toList == b.toList) with
      | true =>
        have HR3 : Hid (((k : Int), true) = R) := Lib.hid (by have := HR2.out; rwa [if_pos e1] at this)
        clear HR2
        go_wp2_with fail
        go_ret2
        have := HR3.out
        subst this
        exact ⟨rfl, hb1⟩
      | false =>
        have HR3 : Hid (rdFrom b g (k + 1) = R) := Lib.hid (by have := HR2.out; rwa [if_neg (by rw [e1]; exact Bool.false_ne_true)] at this)
        clear HR2
        go_wp2_with fail
        go_roundg g
        case rel => exact ⟨k + 1, by omega, by omega, by go_num, HR3, hb1⟩
        case measure => omega
    · have hke : k = 8 := by omega
      subst hke
      have hg0 : gk = 0 := by omega
      subst hg0
      have hd : ¬ ((8 : Nat) : Int) < 8 := by omega
      go_wp2_with fail
      go_ret2
      have := HR.out
      subst this
      exact ⟨rfl, hb⟩
end Go.Proofs.Yteobefanhicjkaa
