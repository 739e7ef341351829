/- Texts of lists of numbers: contracts of both sides. -/
import Derived.Test.YtickepianllblaaGreatDoorTe
import Derived.Test.YtickepianllblaaGreatDoorTb
import Derived.Test.YtickepianllblaaGreatDoorA
namespace Go.Proofs.YtickepianllblaaGreatDoor
open Go.RowKit
set_option maxRecDepth 100000
set_option linter.unusedVariables false
set_option linter.unusedSimpArgs false

def ciT (vs : List Nat) : List Int := vs.map (Nat.cast : Nat → Int)
def wS (vs : List Nat) (k : Nat) : List Value := ((vs.take k).map decA).map Value.string
theorem ciT_nth {vs : List Nat} {k : Nat} (h : k < vs.length) : nth (ciT vs) k = ((vs.getD k 0 : Nat) : Int) := by
  unfold nth ciT
  rw [List.getD_eq_getElem?_getD, List.getElem?_map, List.getD_eq_getElem?_getD, List.getElem?_eq_getElem h]; rfl
theorem ciT_len (vs : List Nat) : (ciT vs).length = vs.length := by simp [ciT]
theorem info_stringT : (Tryz.prog.info? 9).map (fun i => (i.zero, i.size, i.bytes)) = some (some (.string ByteArray.empty), 1, 16) := by kernel_rfl
theorem listText1_any (z : Int) (w : World) : Calls Tryz.prog 52 #[.int .i64 z] w fun e w' => e = .returned (.bool (!inB z (-1000000000000) 1000000000000)) ∧ w = w' := by
  go_enter Tryz.func52, Tryz.ntmps52
  go_wp2_with (go_at_call 53; refine (isValue_any _ _).mono ?_; rintro e w' ⟨rfl, rfl⟩)
  go_ret
  exact ⟨rfl, rfl⟩
theorem any_value {vs : List Nat} (hv : ∀ v ∈ vs, v ≤ 1000000000000) : (ciT vs).any (fun z => !inB z (-1000000000000) 1000000000000) = false := by
  rw [List.any_eq_false]
  intro z hz
  unfold ciT at hz
  rw [List.mem_map] at hz
  obtain ⟨v, hm, rfl⟩ := hz
  have := hv v hm
  have h1 : inB (v : Int) (-1000000000000) 1000000000000 = true := inB_true.2 (by omega)
  rw [h1]; simp
set_option maxHeartbeats 1000000 in
theorem implListText_go {A : Option Addr} {n c B : Nat} {vs : List Nat} {w : World} (h : Ints w B A n (ciT vs)) (hB : B ≤ w.heap.size) (hn : n ≤ 64) (h0 : 0 < n) (hv : ∀ v ∈ vs, v ≤ 1000000000000) (ht : TabOk w) :
    Calls Tryz.prog 31 #[.slice A n c] w fun e w' => e = .returned (.string (jn 44 vs)) ∧ Below w.heap.size w w' := by
  have HL : Hid (vs.length = n) := Lib.hid (by have := h.len; rwa [ciT_len] at this)
  have Hv := Lib.hid hv
  have Hh := Lib.hid h
  have Ht := Lib.hid ht
  have hne0 : ((n : Int) == 0) = false := by rw [beq_eq_false_iff_ne]; omega
  obtain ⟨i0, hi, hz0, hz1, hz2⟩ := info_parts info_stringT
  clear hv ht
  have Hcf : Hid (Calls Tryz.prog 51 #[.slice A n c, .func (.func 52) #[] #[]] w fun e w' => e = .returned (.bool false) ∧ w = w') := Lib.hid (by
    have := containsFunc_any _ (Lib.hid Tryz.call52) (fun z => !inB z (-1000000000000) 1000000000000) (Lib.hid listText1_any) A n c B (ciT vs) w h (by omega)
    rw [any_value Hv.out] at this
    exact this)
  go_enter Tryz.func31, Tryz.ntmps31
  have hd64 : ¬ (64 : Int) < (n : Int) := by omega
  go_wp2_with fail
  refine Hcf.out.mono ?_
  rintro e w' ⟨rfl, rfl⟩
  go_wp2_with fail
  clear h
  go_loopg [3, 18] n (fun gk vo vi wr => ∃ (k : Nat) (A2 : Option Addr) (c2 : Nat), k ≤ n ∧ gk + k = n ∧ vi = .int .i64 (k : Int) ∧ vo = .slice A2 k c2 ∧ Own wr w.heap.size 9 1 A2 k c2 (wS vs k) ∧ Below w.heap.size w wr)
  case atStart => exact ⟨0, none, 0, by omega, by omega, rfl, rfl, Own.nil _ _ _ _, Below.refl _ _⟩
  case round =>
    obtain ⟨k, A2, c2, hk, hgk, rfl, rfl, ho, hb⟩ := hrel
    have Hgk := Lib.hid hgk
    have hbs := hb.size
    clear hgk
    by_cases hlt : k < n
    · obtain ⟨ad, rfl, hbl, hcell⟩ := Hh.out.at_ (k := k) hlt
      rw [ciT_nth (by rw [HL.out]; exact hlt)] at hcell
      have hcell2 := (hb.cell (p := ad.add k) (by rw [block_of_add]; omega)).trans hcell
      have hvk := Hv.out _ (getD_memT (k := k) (by rw [HL.out]; exact hlt))
      have Hs : Hid (wS vs (k + 1) = wS vs k ++ [.string (decA (vs.getD k 0))]) := Lib.hid (by
        unfold wS
        rw [take_snocT (by rw [HL.out]; exact hlt), List.map_append, List.map_append]; rfl)
      generalize vs.getD k 0 = v at *
      have hdec : Hid (∀ W, Below w.heap.size w W → Calls Tryz.prog 54 #[.int .i64 (v : Int)] W fun e w' => e = .returned (.string (decA v)) ∧ Below W.heap.size W w') := Lib.hid (fun W hW => decimal_nat (by omega) (Ht.out.below hW))
      have hi0 : (0 : Int) ≤ (k : Int) := by omega
      have hi1 : (k : Int) < (n : Int) := by omega
      have hqk : IntKind.i64.wrap ((k : Int) + 1) = (k : Int) + 1 := IntWalk.i64_in _ (by omega)
      clear hcell
      generalize decA v = de at *
      have Ho := Lib.hid ho
      clear ho
      go_wp2_with fail
      refine (hdec.out _ hb).mono ?_
      rintro e w2 ⟨rfl, b2⟩
      have hb2 := hb.trans (b2.mono hbs)
      have hbs2 := hb2.size
      have ho2 := Ho.out.below b2
      clear b2 Ho
      go_wp2_with (at_builtin; refine wpList_app rfl _ _ 27 rfl 9 i0 _ 1 16 Tryz.underlying27 hi hz0 hz1 hz2 rfl (by omega) (by omega) w.heap.size _ _ _ _ rfl (ho2.alloc _) ⟨w2.heap.size, 0, none⟩ 1 1 [.string de] rfl rfl (cell_one_new _ _ _) (by simp [Value.oneCell']) (by omega) (by simp; omega) ?_)
      intro A3 c3 w3 ho3 hgA hbA hat
      have ho4 : Own w3 w.heap.size 9 1 A3 (k + 1) c3 (wS vs (k + 1)) := by rw [Hs.out]; exact ho3
      have hb4 : Below w.heap.size w w3 := (hb2.alloc hbs2 _).trans hbA
      clear ho3 hgA hbA hat ho2
      go_wp2_with fail
      have hgk := Hgk.out
      go_roundg (gk - 1)
      case rel => exact ⟨k + 1, A3, c3, by omega, by omega, by go_num, rfl, ho4, hb4⟩
      case measure => omega
    · have hke : n = k := by omega
      subst hke
      have hd : ¬ (n : Int) < (n : Int) := by omega
      have hjl : (Lib.join ((vs.map decA).map (·.data.toList)) [44]).length ≤ 140737488355328 := by
        rw [jn_join_len]
        have := jn_size 44 (vs := vs) (fun v hv => by have := Hv.out v hv; omega) n (by rw [HL.out]; exact Nat.le_refl _)
        rw [List.take_of_length_le (by rw [HL.out]; exact Nat.le_refl _)] at this
        omega
      have hcap := ho.cap
      unfold wS at ho
      rw [List.take_of_length_le (by rw [HL.out]; exact Nat.le_refl _)] at ho
      rcases ho.2 with ⟨e0, h00⟩ | ⟨g, cap, cur, e0, _⟩
      · injection e0 with _ e0; omega
      · injection e0 with e0 _ ec
        subst e0
        subst ec
        have hxl0 : (vs.map decA).length = n := by rw [List.length_map]; exact HL.out
        have hcells : ∀ (j : Nat) x, (vs.map decA)[j]? = some x → wr.cell? ⟨g, 0 + j, none⟩ = some (.string x) := by
          intro j x hx
          have hjl := (List.getElem?_eq_some_iff.1 hx).1
          rw [Nat.zero_add, Own.cellAt ho (by omega), List.getElem?_map, hx]; rfl
        have hg : g < wr.heap.size := (ho.block_lt _ rfl).2.2.2
        have cJ := Tryz.strings_Join g 0 c2 (vs.map decA) ⟨#[44]⟩ wr hcells hg (by omega) (by omega) hjl
        change Calls Tryz.prog 55 _ wr (fun e w' => e = .returned (.string ⟨(Lib.join ((vs.map decA).map (·.data.toList)) [44]).toArray⟩) ∧ _) at cJ
        rw [jn_join, hxl0] at cJ
        have HJ := Lib.hid cJ
        clear cJ hcells
        go_wp2_with fail
        refine HJ.out.mono ?_
        rintro e w' ⟨rfl, bJ⟩
        go_wp2_with fail
        go_ret
        exact ⟨rfl, hb.trans (bJ.mono hbs)⟩
end Go.Proofs.YtickepianllblaaGreatDoor
