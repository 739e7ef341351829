/- Reading of lists: the program's. -/
import Derived.Test.YtickepianllblaaGreatDoorUj
namespace Go.Proofs.YtickepianllblaaGreatDoor
open Go.RowKit
set_option maxRecDepth 100000
set_option linter.unusedVariables false
set_option linter.unusedSimpArgs false

def RdLP (l : List UInt8) (w : World) (e : Ending) (w' : World) : Prop := ∃ (A : Option Addr) (n k : Nat), e = .returned (.tuple #[.slice A n k, .bool (rReadL l).2]) ∧ n ≤ 64 ∧ Own w' w.heap.size 2 1 A n k ((rReadL l).1.map (Value.int .i64)) ∧ Below w.heap.size w w'
theorem minus_data : (⟨#[45]⟩ : ByteArray).data.toList = [45] := rfl
theorem not_minus {s : ByteArray} (h : s ≠ ⟨#[45]⟩) : s.data.toList ≠ [45] := by
  intro e
  have h2 : (⟨([45] : List UInt8).toArray⟩ : ByteArray) = s := bytes_eq.2 e.symm
  exact h h2.symm
theorem own_len {w : World} {B e n c : Nat} {A : Option Addr} {zs : List Int} (h : Own w B e 1 A n c (zs.map (Value.int .i64))) : zs.length = n := by
  have := h.reads.1
  simpa using this
set_option maxHeartbeats 4000000 in
theorem implReadList_any {s : ByteArray} {w : World} (hs : s.size ≤ 1048576) (ht : TabR w) : Calls Tryz.prog 50 #[.string s] w (RdLP s.data.toList w) := by
  by_cases hm : s = ⟨#[45]⟩
  · subst hm
    have HF : Hid (RdLP (⟨#[45]⟩ : ByteArray).data.toList w (.returned (.tuple #[.slice none 0 0, .bool true])) w) := Lib.hid ⟨none, 0, 0, rfl, by omega, Own.nil _ _ _ _, Below.refl _ _⟩
    go_enter Tryz.func50, Tryz.ntmps50
    go_wp2_with fail
    exact bodyPost_ret (v := .tuple #[.slice none 0 0, .bool true]) (by simp [results, Tryz.results50, go_sem]) rfl HF.out
  have HM := Lib.hid (not_minus hm)
  have hb0 : (s.toList == [45]) = false := by rw [beq_eq_false_iff_ne]; exact fun e => HM.out (by rw [← ByteArray.toList_eq]; exact e)
  clear hm
  obtain ⟨i0, hi, hz0, hz1, hz2⟩ := info_parts info_int
  have hlen := bytes_len s
  have Ht := Lib.hid ht
  clear ht
  have Hsp := Lib.hid (split_any (c := 44) hs Ht.out)
  go_enter Tryz.func50, Tryz.ntmps50
  go_wp2_with fail
  refine Hsp.out.mono ?_
  rintro e w1 ⟨A, k, ps, rfl, hps, o1, b1⟩
  clear Hsp
  have hsh := sp_short 44 s.data.toList
  rw [← hps] at hsh
  have hpl : ps.length ≤ 1048577 := by have := hsh.1; rw [List.length_map, hlen] at this; omega
  have hpl0 : 0 < ps.length := by
    have : (sp 44 s.data.toList).length ≠ 0 := fun e => sp_ne 44 _ (List.length_eq_zero_iff.1 e)
    rw [← hps, List.length_map] at this
    omega
  have Hw : Hid (∀ j, j < ps.length → (ps.getD j ⟨#[]⟩).size ≤ 1048576) := Lib.hid (fun j hj => by
    have e1 : ps.getD j ⟨#[]⟩ = ps[j] := by simp [List.getD, List.getElem?_eq_getElem hj]
    rw [e1]
    have := hsh.2 ps[j].data.toList (List.mem_map.2 ⟨_, List.getElem_mem hj, rfl⟩)
    rw [hlen, bytes_len] at this
    omega)
  have HP := Lib.hid hps
  have R1 : Hid (Reads w1 w1.heap.size 1 A ps.length (ps.map Value.string)) := Lib.hid o1.reads
  have B1 := Lib.hid b1
  have Ht1 := Lib.hid (Ht.out.below b1)
  have hs1 := b1.size
  have O2 := Lib.hid (Own.nil w1 w1.heap.size 2 1)
  clear o1 b1 hsh hps Ht
  obtain ⟨np, hnp⟩ : ∃ n, ps.length = n := ⟨_, rfl⟩
  have Hnp := Lib.hid hnp
  rw [hnp] at hpl hpl0 R1 ⊢
  clear hnp
  go_wp2_with fail
  go_loopg [4, 14] np (fun gk vo vi wr => ∃ (j k2 : Nat) (A2 : Option Addr), j ≤ np ∧ gk + j = np ∧ vi = .int .i64 (j : Int) ∧ vo = .slice A2 j k2 ∧ Own wr w1.heap.size 2 1 A2 j k2 ((((ps.map (·.data.toList)).take j).map rdN).map (Value.int .i64)) ∧ Below w1.heap.size w1 wr)
  case atStart => exact ⟨0, _, _, by omega, by omega, rfl, rfl, by rw [List.take_zero]; exact O2.out, Below.refl _ _⟩
  case round =>
    clear O2
    obtain ⟨j, k2, A2, hj, hgk, rfl, rfl, ho, hb⟩ := hrel
    have Hgk := Lib.hid hgk
    have HO := Lib.hid ho
    have HB := Lib.hid hb
    have hbs := hb.size
    clear hgk ho hb
    have hj0 : (0 : Int) ≤ (j : Int) := by omega
    have qj : IntKind.i64.wrap ((j : Int) + 1) = (j : Int) + 1 := IntWalk.i64_in _ (by omega)
    by_cases hlt : j < np
    · have hjl : j < ps.length := by rw [Hnp.out]; exact hlt
      obtain ⟨ad, u, hA, hbl, hu, hcell⟩ := Reads.at_ (Reads.below R1.out HB.out (Nat.le_refl _)) hlt
      have hu2 : u = .string (ps.getD j ⟨#[]⟩) := by
        rw [List.getElem?_map, List.getElem?_eq_getElem hjl] at hu
        simp [List.getD, List.getElem?_eq_getElem hjl] at hu ⊢
        exact hu.symm
      subst hu2
      subst hA
      have hz := Hw.out j hjl
      have Htk : Hid (((ps.map (·.data.toList)).take (j + 1)).map rdN = ((ps.map (·.data.toList)).take j).map rdN ++ [(numR (ps.getD j ⟨#[]⟩).data.toList).1]) := Lib.hid (by
        rw [List.take_add_one, List.getElem?_map, List.getElem?_eq_getElem hjl]
        simp [List.getD, List.getElem?_eq_getElem hjl, rdN])
      clear hu
      generalize ((ps.map (·.data.toList)).take j).map rdN = ys at *
      generalize ps.getD j ⟨#[]⟩ = p at *
      have hj1 : (j : Int) < (np : Int) := by omega
      have Hnum := Lib.hid (readDecimal_any (w := wr) hz (Ht1.out.below HB.out))
      go_wp2_with fail
      refine Hnum.out.mono ?_
      rintro e w4 ⟨rfl, b4⟩
      have b4s := b4.size
      have HO4 := Lib.hid (HO.out.below b4)
      have HB4 := Lib.hid (HB.out.trans (b4.mono HB.out.size))
      generalize (numR p.data.toList).1 = z at *
      generalize (numR p.data.toList).2 = zb at *
      clear HO HB b4 Hnum
      go_wp2_with (at_builtin; refine wpList_app rfl _ _ 34 rfl 2 i0 _ 1 8 Tryz.underlying34 hi hz0 hz1 hz2 rfl (by omega) (by omega) w1.heap.size _ _ _ _ rfl (HO4.out.alloc _) ⟨w4.heap.size, 0, none⟩ 1 1 [.int .i64 z] rfl rfl (cell_one_new _ _ _) (by simp [Value.oneCell']) (by omega) (by simp; omega) ?_)
      intro A3 c3 w5 ho3 hgA hbA hat
      have ho4 : Own w5 w1.heap.size 2 1 A3 (j + 1) c3 ((((ps.map (·.data.toList)).take (j + 1)).map rdN).map (Value.int .i64)) := by rw [Htk.out, List.map_append]; exact ho3
      have hb5 : Below w1.heap.size w1 w5 := (HB4.out.alloc (by omega) _).trans hbA
      clear ho3 hgA hbA hat HO4 HB4
      go_wp2_with fail
      have hgk := Hgk.out
      go_roundg (gk - 1)
      case rel => exact ⟨j + 1, c3, A3, by omega, by omega, by go_num, rfl, ho4, hb5⟩
      case measure => omega
    · have hje : j = np := by omega
      have hxs : ((ps.map (·.data.toList)).take j).map rdN = (sp 44 s.data.toList).map rdN := by
        rw [List.take_of_length_le (by rw [List.length_map, Hnp.out]; omega), HP.out]
      have HR := Lib.hid (readL_same HM.out)
      have hj1 : ¬ (j : Int) < (np : Int) := by omega
      rw [hxs] at HO
      have Hxl : Hid (((sp 44 s.data.toList).map rdN).length = j) := Lib.hid (by rw [← hxs, List.length_map, List.length_take, List.length_map, Hnp.out]; omega)
      clear hxs
      generalize (sp 44 s.data.toList).map rdN = xs at *
      have R2 : Hid (Ints wr wr.heap.size A2 j xs) := Lib.hid HO.out.reads
      have HBt := Lib.hid (B1.out.trans (HB.out.mono hs1))
      have Hown : Hid (Own wr w.heap.size 2 1 A2 j k2 (xs.map (Value.int .i64))) := Lib.hid (HO.out.mono hs1)
      have HT := Lib.hid (implListText_int (c := k2) R2.out (Nat.le_refl _) (by omega) (by omega) (Ht1.out.below HB.out).1)
      clear HO HB hje
      by_cases hq : rListL xs = s.data.toList
      · have HS : Hid ((⟨(rListL xs).toArray⟩ : ByteArray) = s) := Lib.hid (bytes_eq.2 hq)
        have hr : rReadL s.data.toList = (xs, true) := by rw [HR.out, if_pos hq]
        have hj64 : j ≤ 64 := by
          have := readL_len s.data.toList
          rw [hr] at this
          rw [Hxl.out] at this
          exact this
        rw [HS.out] at HT
        have Hr := Lib.hid hr
        clear HR hq hr HS
        go_wp2_with fail
        refine HT.out.mono ?_
        rintro e w6 ⟨rfl, b6⟩
        have HF : Hid (RdLP s.data.toList w (.returned (.tuple #[.slice A2 j k2, .bool true])) w6) := Lib.hid (by
          exact ⟨A2, j, k2, by rw [Hr.out], hj64, by rw [Hr.out]; exact Hown.out.below b6, HBt.out.trans (b6.mono HBt.out.size)⟩)
        clear b6
        go_wp2_with fail
        exact bodyPost_ret (v := .tuple #[.slice A2 j k2, .bool true]) (by simp [results, Tryz.results50, go_sem]) rfl HF.out
      · have hS : (⟨(rListL xs).toArray⟩ : ByteArray) ≠ s := fun e => hq (bytes_eq.1 e)
        have hr : rReadL s.data.toList = ([], false) := by rw [HR.out, if_neg hq]
        have Hr := Lib.hid hr
        generalize (⟨(rListL xs).toArray⟩ : ByteArray) = tx at *
        have hb : (tx.toList == s.toList) = false := by rw [beq_eq_false_iff_ne]; exact fun e => hS (ba_inj e)
        clear HR hq hr hS
        go_wp2_with fail
        refine HT.out.mono ?_
        rintro e w6 ⟨rfl, b6⟩
        have HF : Hid (RdLP s.data.toList w (.returned (.tuple #[.slice none 0 0, .bool false])) w6) := Lib.hid (by
          exact ⟨none, 0, 0, by rw [Hr.out], by omega, by rw [Hr.out]; exact Own.nil _ _ _ _, HBt.out.trans (b6.mono HBt.out.size)⟩)
        clear b6
        go_wp2_with fail
        exact bodyPost_ret (v := .tuple #[.slice none 0 0, .bool false]) (by simp [results, Tryz.results50, go_sem]) rfl HF.out
end Go.Proofs.YtickepianllblaaGreatDoor
