/- Skills: SkillText and ReadSkills: contracts of both sides. -/
import Derived.Test.YtpakopkmcjdfpaaDoorSa
import Derived.Test.YtpakopkmcjdfpaaDoorSz
import Derived.Test.YtpakopkmcjdfpaaDoorHaHelper
namespace Go.Proofs.YtpakopkmcjdfpaaDoor
open Go.RowKit
set_option maxRecDepth 100000
set_option linter.unusedVariables false
set_option linter.unusedSimpArgs false

theorem info_stringS : (Tryd.prog.info? 9).map (fun i => (i.zero, i.size, i.bytes)) = some (some (.string ByteArray.empty), 1, 16) := by kernel_rfl
/-- The words of the skills among the first k. -/
def skWs (s : Nat) : Nat → List ByteArray
  | 0 => []
  | k + 1 => if skBit s k then skWs s k ++ [skW k] else skWs s k
theorem skWs_len (s k : Nat) : (skWs s k).length ≤ k := by
  induction k with
  | zero => exact Nat.le_refl _
  | succ k ih =>
    rw [skWs]
    split
    · simp; omega
    · omega
theorem skWs_join {s : Nat} (h0 : 1 ≤ s) (hs : s ≤ 7) : (⟨(Lib.join ((skWs s 3).map (·.data.toList)) [43]).toArray⟩ : ByteArray) = skSay s ∧ 0 < (skWs s 3).length ∧ (Lib.join ((skWs s 3).map (·.data.toList)) [43]).length ≤ 140737488355328 := by
  match s, h0, hs with
  | 1, _, _ => exact ⟨rfl, by decide, by decide⟩
  | 2, _, _ => exact ⟨rfl, by decide, by decide⟩
  | 3, _, _ => exact ⟨rfl, by decide, by decide⟩
  | 4, _, _ => exact ⟨rfl, by decide, by decide⟩
  | 5, _, _ => exact ⟨rfl, by decide, by decide⟩
  | 6, _, _ => exact ⟨rfl, by decide, by decide⟩
  | 7, _, _ => exact ⟨rfl, by decide, by decide⟩
  | _ + 8, _, h => omega
def rSkill (s : Int) : ByteArray := if inB s 0 7 then skSay s.toNat else ⟨#[]⟩

theorem implSkillText_any {s : Int} {w : World} :
    Calls Tryd.prog 16 #[.int .i64 s] w fun e w' => e = .returned (.string (rSkill s)) ∧ Below w.heap.size w w' := by
  obtain ⟨i0, hi, hz0, hz1, hz2⟩ := info_parts info_stringS
  cases hb : inB s 0 7 with
  | false =>
    have Hr : Hid (rSkill s = ⟨#[]⟩) := Lib.hid (by rw [rSkill, hb]; rfl)
    go_enter Tryd.func16, Tryd.ntmps16
    go_wp2_with (go_at_call 27; refine (isSkills_any _ _).mono ?_; rintro e w' ⟨rfl, rfl⟩; rw [hb])
    go_ret
    exact ⟨ret_str (by rw [Hr.out]), Below.refl _ _⟩
  | true =>
    have h := inB_true.1 hb
    obtain ⟨n, rfl⟩ := Int.eq_ofNat_of_zero_le h.1
    have Hr : Hid (rSkill (n : Int) = skSay n) := Lib.hid (by rw [rSkill, if_pos hb]; rfl)
    have hn7 : n ≤ 7 := by omega
    by_cases hz : n = 0
    · subst hz
      have hb0 : inB 0 0 7 = true := rfl
      go_enter Tryd.func16, Tryd.ntmps16
      go_wp2_with (go_at_call 27; refine (isSkills_any _ _).mono ?_; rintro e w' ⟨rfl, rfl⟩; first | rw [hb0] | rw [hb])
      go_ret
      exact ⟨ret_str (by rw [Hr.out]; rfl), Below.refl _ _⟩
    · have hne : ((n : Int) == 0) = false := by rw [beq_eq_false_iff_ne]; omega
      have Hj := Lib.hid (skWs_join (s := n) (by omega) hn7)
      have Hb := Lib.hid hb
      go_enter Tryd.func16, Tryd.ntmps16
      go_wp2_with (go_at_call 27; refine (isSkills_any _ _).mono ?_; rintro e w' ⟨rfl, rfl⟩; rw [hb])
      clear hne hb h
      go_loopg [3, 13] 3 (fun gk vs vk wr => ∃ (k : Nat) (A : Option Addr) (m c : Nat), k ≤ 3 ∧ gk + k = 3 ∧ vk = .int .i64 k ∧ vs = .slice A m c ∧ m = (skWs n k).length ∧ Own wr (w.heap.size + 1) 9 1 A m c ((skWs n k).map Value.string) ∧ Below (w.heap.size + 1) (w.alloc (.cells #[.string (skW 0), .string (skW 1), .string (skW 2)] 9)) wr)
      case atStart => exact ⟨0, none, 0, 0, by omega, by omega, rfl, rfl, rfl, Own.nil _ _ _ _, Below.refl _ _⟩
      case round =>
        obtain ⟨k, A, m, c, hk, hgk, rfl, rfl, hm, ho, hb⟩ := hrel
        have Hgk := Lib.hid hgk
        have Hm := Lib.hid hm
        have hm3 : m ≤ 3 := by rw [hm]; exact Nat.le_trans (skWs_len n k) hk
        clear hgk hm
        have hbs := hb.size
        have hbs2 : w.heap.size + 1 ≤ wr.heap.size := by simpa using hbs
        have hqk : IntKind.i64.wrap ((k : Int) + 1) = (k : Int) + 1 := IntWalk.i64_in _ (by omega)
        by_cases hlt : k < 3
        · have hd : (k : Int) < 3 := by omega
          have cK : wr.cell? ⟨w.heap.size, k, none⟩ = some (.string (skW k)) := (hb.cell (by simp)).trans (skW_cell w _ hlt)
          have hbit := skBit_eq hn7 hlt
          have Hs : Hid (skWs n (k + 1) = if skBit n k then skWs n k ++ [skW k] else skWs n k) := Lib.hid rfl
          generalize skW k = wk at *
          cases e1 : skBit n k with
          | false =>
            rw [e1] at hbit Hs
            have Hs2 : Hid (skWs n (k + 1) = skWs n k) := Lib.hid (by rw [Hs.out]; rfl)
            go_wp2_with fail
            have hgk := Hgk.out
            go_roundg (gk - 1)
            case rel => exact ⟨k + 1, A, m, c, by omega, by omega, by go_num, rfl, by rw [Hs2.out]; exact Hm.out, by rw [Hs2.out]; exact ho, hb⟩
            case measure => omega
          | true =>
            rw [e1] at hbit Hs
            have Hs2 : Hid (skWs n (k + 1) = skWs n k ++ [wk]) := Lib.hid (by rw [Hs.out]; rfl)
            go_wp2_with (at_builtin; refine wpList_app rfl _ _ 47 rfl 9 i0 _ 1 16 Tryd.underlying47 hi hz0 hz1 hz2 rfl (by omega) (by omega) (w.heap.size + 1) _ _ _ _ rfl (ho.alloc _) ⟨wr.heap.size, 0, none⟩ 1 1 [.string wk] rfl rfl (cell_one_new _ _ _) (by simp [Value.oneCell']) (by omega) (by simp; omega) ?_)
            intro A3 c3 w3 ho3 hgA hbA hat
            have ho4 : Own w3 (w.heap.size + 1) 9 1 A3 (m + 1) c3 ((skWs n (k + 1)).map Value.string) := by rw [Hs2.out, List.map_append]; exact ho3
            have hb4 : Below (w.heap.size + 1) (w.alloc (.cells #[.string (skW 0), .string (skW 1), .string (skW 2)] 9)) w3 := (hb.alloc hbs2 _).trans hbA
            have Hl : Hid (m + 1 = (skWs n (k + 1)).length) := Lib.hid (by rw [Hs2.out, List.length_append, ← Hm.out]; rfl)
            clear ho3 hgA hbA hat ho
            go_wp2_with fail
            have hgk := Hgk.out
            go_roundg (gk - 1)
            case rel => exact ⟨k + 1, A3, m + 1, c3, by omega, by omega, by go_num, rfl, Hl.out, ho4, hb4⟩
            case measure => omega
        · have hke : k = 3 := by omega
          subst hke
          have hd : ¬ ((3 : Nat) : Int) < 3 := by omega
          obtain ⟨hj1, hj2, hj3⟩ := Hj.out
          have hcap := ho.cap
          have hm := Hm.out
          rcases ho.2 with ⟨e0, h0⟩ | ⟨g, cap, cur, e0, _⟩
          · injection e0 with _ e0; omega
          · injection e0 with e0 _ ec
            subst e0
            subst ec
            subst hm
            have hcells : ∀ (j : Nat) x, (skWs n 3)[j]? = some x → wr.cell? ⟨g, 0 + j, none⟩ = some (.string x) := by
              intro j x hx
              have hjl := (List.getElem?_eq_some_iff.1 hx).1
              rw [Nat.zero_add, Own.cellAt ho (by omega), List.getElem?_map, hx]; rfl
            have hg : g < wr.heap.size := (ho.block_lt _ rfl).2.2.2
            generalize skWs n 3 = xs at *
            have hxl : xs.length ≤ 140737488355328 := by omega
            have cJ := Tryd.strings_Join g 0 c xs ⟨#[43]⟩ wr hcells hg hxl hcap hj3
            change Calls Tryd.prog 29 _ wr (fun e w' => e = .returned (.string ⟨(Lib.join (xs.map (·.data.toList)) [43]).toArray⟩) ∧ _) at cJ
            rw [hj1] at cJ
            have HJ := Lib.hid cJ
            clear cJ hj1 hj3 hcells
            go_wp2_with fail
            refine HJ.out.mono ?_
            rintro e w' ⟨rfl, bJ⟩
            go_wp2_with fail
            go_ret
            exact ⟨ret_str (by rw [Hr.out]), ((Below.refl _ _).alloc (Nat.le_refl _) _).trans ((hb.mono (by simp)).trans (bJ.mono (by omega)))⟩
end Go.Proofs.YtpakopkmcjdfpaaDoor
