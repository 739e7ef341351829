/- Reading of lists: the reference's. -/
import Derived.Test.YtickepianllblaaDoorUk
namespace Go.Proofs.YtickepianllblaaDoor
open Go.RowKit
set_option maxRecDepth 100000
set_option linter.unusedVariables false
set_option linter.unusedSimpArgs false

set_option maxHeartbeats 4000000 in
theorem specReadList_any {s : ByteArray} {w : World} (hs : s.size ≤ 1048576) : Calls Tryd.prog 8 #[.string s] w (RdLP s.data.toList w) := by
  by_cases hm : s = ⟨#[45]⟩
  · subst hm
    have HF : Hid (RdLP (⟨#[45]⟩ : ByteArray).data.toList w (.returned (.tuple #[.slice (some ⟨w.heap.size, 0, none⟩) 0 0, .bool true])) (w.alloc (.cells #[] 2))) := Lib.hid ⟨_, 0, 0, rfl, by omega, Own.empty w w.heap.size 2 1 (Nat.le_refl _), (Below.refl _ _).alloc (Nat.le_refl _) _⟩
    go_enter Tryd.func8, Tryd.ntmps8
    go_wp2_with fail
    exact bodyPost_ret (v := .tuple #[.slice (some ⟨w.heap.size, 0, none⟩) 0 0, .bool true]) (by simp [results, Tryd.results8, go_sem]) rfl HF.out
  have HM := Lib.hid (not_minus hm)
  have hb0 : (s.toList == [45]) = false := by rw [beq_eq_false_iff_ne]; exact fun e => HM.out (by rw [← ByteArray.toList_eq]; exact e)
  clear hm
  obtain ⟨i0, hi, hz0, hz1, hz2⟩ := info_parts info_int
  have hlen := bytes_len s
  have Hsp := Lib.hid (l01Split_any (c := 44) (w := w) hs)
  go_enter Tryd.func8, Tryd.ntmps8
  go_wp2_with fail
  refine Hsp.out.mono ?_
  rintro e w1 ⟨A, k, ps, rfl, hps, o1, b1⟩
  clear Hsp
  have hsh := sp_short 44 s.data.toList
  rw [← hps] at hsh
  have hpl : ps.length ≤ 1048577 := by have := hsh.1; rw [List.length_map, hlen] at this; omega
  have B1 := Lib.hid b1
  have hs1 := b1.size
  by_cases h64 : 64 < ps.length
  · have HR := Lib.hid (long_words HM.out (by rw [← hps, List.length_map]; exact h64))
    have HF : Hid (RdLP s.data.toList w (.returned (.tuple #[.slice none 0 0, .bool false])) w1) := Lib.hid (by
      exact ⟨none, 0, 0, by rw [HR.out], by omega, by rw [HR.out]; exact Own.nil _ _ _ _, B1.out⟩)
    have h64i : (64 : Int) < (ps.length : Int) := by omega
    clear o1 b1 hsh hps
    generalize ps.length = np at *
    go_wp2_with fail
    exact bodyPost_ret (v := .tuple #[.slice none 0 0, .bool false]) (by simp [results, Tryd.results8, go_sem]) rfl HF.out
  have hw : ∀ j, j < ps.length → (ps.getD j ⟨#[]⟩).size ≤ 1048576 ∧ (ps.map (·.data.toList)).getD j [] = (ps.getD j ⟨#[]⟩).data.toList := (fun j hj => by
    have e1 : ps.getD j ⟨#[]⟩ = ps[j] := by simp [List.getD, List.getElem?_eq_getElem hj]
    refine ⟨?_, by simp [List.getD, List.getElem?_eq_getElem hj]⟩
    rw [e1]
    have := hsh.2 ps[j].data.toList (List.mem_map.2 ⟨_, List.getElem_mem hj, rfl⟩)
    rw [hlen, bytes_len] at this
    omega)
  have Hw := Lib.hid hw
  have HP := Lib.hid hps
  have R1 : Hid (Reads w1 w1.heap.size 1 A ps.length (ps.map Value.string)) := Lib.hid o1.reads
  have O2 := Lib.hid (Own.empty w1 w1.heap.size 2 1 (Nat.le_refl _))
  have B2 : Hid (Below w1.heap.size w1 (w1.alloc (.cells #[] 2))) := Lib.hid ((Below.refl _ _).alloc (Nat.le_refl _) _)
  clear o1 b1 hsh hps hw
  obtain ⟨np, hnp⟩ : ∃ n, ps.length = n := ⟨_, rfl⟩
  have Hnp := Lib.hid hnp
  rw [hnp] at hpl h64 R1 ⊢
  clear hnp
  have h64i : ¬ (64 : Int) < (np : Int) := by omega
  go_wp2_with fail
  generalize w1.alloc (.cells #[] 2) = w2 at *
  go_loopg [5, 6] np (fun gk vo vi wr => ∃ (j k2 : Nat) (A2 : Option Addr) (xs : List Int), j ≤ np ∧ gk + j = np ∧ vi = .int .i64 (j : Int) ∧ vo = .slice A2 j k2 ∧ xs.length = j ∧ Hid (numsL ((ps.map (·.data.toList)).take j) = some xs ∧ xs.all inV = true) ∧ Own wr w1.heap.size 2 1 A2 j k2 (xs.map (Value.int .i64)) ∧ Below w1.heap.size w1 wr)
  case atStart => exact ⟨0, _, _, [], by omega, by omega, rfl, rfl, rfl, Lib.hid (by simp [numsL]), O2.out, B2.out⟩
  case round =>
    clear O2 B2
    obtain ⟨j, k2, A2, xs, hj, hgk, rfl, rfl, hxl, HX, ho, hb⟩ := hrel
    have Hgk := Lib.hid hgk
    have HO := Lib.hid ho
    have HB := Lib.hid hb
    have Hxl := Lib.hid hxl
    have hbs := hb.size
    clear hgk ho hb hxl
    have hj0 : (0 : Int) ≤ (j : Int) := by omega
    have qj : IntKind.i64.wrap ((j : Int) + 1) = (j : Int) + 1 := IntWalk.i64_in _ (by omega)
    by_cases hlt : j < np
    · have hjl : j < ps.length := by rw [Hnp.out]; exact hlt
      obtain ⟨ad, u, hA, hbl, hu, hcell⟩ := Reads.at_ (Reads.below R1.out HB.out (Nat.le_refl _)) hlt
      have hu2 : u = .string (ps.getD j ⟨#[]⟩) := by
        rw [List.getElem?_map, List.getElem?_eq_getElem hjl] at hu
        simp [List.getD, List.getElem?_eq_getElem hjl] at hu ⊢
        exact hu.symm
      subst hu2
      subst hA
      obtain ⟨hz, hd⟩ := Hw.out j hjl
      have htk : (ps.map (·.data.toList)).take (j + 1) = (ps.map (·.data.toList)).take j ++ [(ps.getD j ⟨#[]⟩).data.toList] := by
        rw [List.take_add_one, List.getElem?_map, List.getElem?_eq_getElem hjl]
        simp [List.getD, List.getElem?_eq_getElem hjl]
      have hdr : sp 44 s.data.toList = (ps.map (·.data.toList)).take j ++ (ps.getD j ⟨#[]⟩).data.toList :: (ps.map (·.data.toList)).drop (j + 1) := by
        rw [← HP.out]
        have h1 : (ps.map (·.data.toList)).take (j + 1) ++ (ps.map (·.data.toList)).drop (j + 1) = ps.map (·.data.toList) := List.take_append_drop _ _
        rw [htk, List.append_assoc] at h1
        exact h1.symm
      clear hu hd
      generalize ps.getD j ⟨#[]⟩ = p at *
      have hj1 : (j : Int) < (np : Int) := by omega
      have Hnum := Lib.hid (l01Number_any (w := wr) hz)
      have HBt := Lib.hid (B1.out.trans (HB.out.mono hs1))
      cases hn : numL p.data.toList with
      | none =>
        have HR := Lib.hid (bad_word HM.out hdr (.inl hn))
        have HN : Hid (numR p.data.toList = (0, false)) := Lib.hid (by unfold numR; rw [hn])
        have HF : Hid (RdLP s.data.toList w (.returned (.tuple #[.slice none 0 0, .bool false])) wr) := Lib.hid (by
          exact ⟨none, 0, 0, by rw [HR.out], by omega, by rw [HR.out]; exact Own.nil _ _ _ _, HBt.out⟩)
        clear hn hdr htk HR
        go_wp2_with fail
        refine Hnum.out.mono ?_
        rintro e w' ⟨rfl, rfl⟩
        rw [HN.out]
        go_wp2_with fail
        exact bodyPost_ret (v := .tuple #[.slice none 0 0, .bool false]) (by simp [results, Tryd.results8, go_sem]) rfl HF.out
      | some z =>
        have HN : Hid (numR p.data.toList = (z, true)) := Lib.hid (by unfold numR; rw [hn])
        have Hin := Lib.hid (in_any z (-1000000000000) 1000000000000)
        cases hv : inB z (-1000000000000) 1000000000000 with
        | false =>
          have HR := Lib.hid (bad_word HM.out hdr (.inr ⟨z, hn, hv⟩))
          have HF : Hid (RdLP s.data.toList w (.returned (.tuple #[.slice none 0 0, .bool false])) wr) := Lib.hid (by
            exact ⟨none, 0, 0, by rw [HR.out], by omega, by rw [HR.out]; exact Own.nil _ _ _ _, HBt.out⟩)
          rw [hv] at Hin
          clear hn hdr htk HR hv
          go_wp2_with fail
          refine Hnum.out.mono ?_
          rintro e w' ⟨rfl, rfl⟩
          rw [HN.out]
          go_wp2_with fail
          refine (Hin.out _).mono ?_
          rintro e w' ⟨rfl, rfl⟩
          go_wp2_with fail
          exact bodyPost_ret (v := .tuple #[.slice none 0 0, .bool false]) (by simp [results, Tryd.results8, go_sem]) rfl HF.out
        | true =>
          have HX2 : Hid (numsL ((ps.map (·.data.toList)).take (j + 1)) = some (xs ++ [z]) ∧ (xs ++ [z]).all inV = true) := Lib.hid (by
            refine ⟨by rw [htk, numsL_snoc _ _ _ HX.out.1, hn]; rfl, ?_⟩
            rw [List.all_append, HX.out.2]
            simp [inV, hv])
          rw [hv] at Hin
          clear hn hdr htk hv
          go_wp2_with fail
          refine Hnum.out.mono ?_
          rintro e w' ⟨rfl, rfl⟩
          rw [HN.out]
          go_wp2_with fail
          refine (Hin.out _).mono ?_
          rintro e w' ⟨rfl, rfl⟩
          go_wp2_with (at_builtin; refine wpList_app rfl _ _ 30 rfl 2 i0 _ 1 8 Tryd.underlying30 hi hz0 hz1 hz2 rfl (by omega) (by omega) w1.heap.size _ _ _ _ rfl (HO.out.alloc _) ⟨wr.heap.size, 0, none⟩ 1 1 [.int .i64 z] rfl rfl (cell_one_new _ _ _) (by simp [Value.oneCell']) (by omega) (by simp; omega) ?_)
          intro A3 c3 w5 ho3 hgA hbA hat
          have ho4 : Own w5 w1.heap.size 2 1 A3 (j + 1) c3 ((xs ++ [z]).map (Value.int .i64)) := by rw [List.map_append]; exact ho3
          have hb5 : Below w1.heap.size w1 w5 := (HB.out.alloc hbs _).trans hbA
          clear ho3 hgA hbA hat HO HB
          go_wp2_with fail
          have hgk := Hgk.out
          go_roundg (gk - 1)
          case rel => exact ⟨j + 1, c3, A3, xs ++ [z], by omega, by omega, by go_num, rfl, by simp [Hxl.out], HX2, ho4, hb5⟩
          case measure => omega
    · have hje : j = np := by omega
      have hnx : numsL (sp 44 s.data.toList) = some xs := by
        have := HX.out.1
        rwa [List.take_of_length_le (by rw [List.length_map, Hnp.out]; omega), HP.out] at this
      have HR := Lib.hid (all_words HM.out hnx (by
        unfold okL
        rw [HX.out.2, Hxl.out]
        simp
        omega))
      have hj1 : ¬ (j : Int) < (np : Int) := by omega
      have HF : Hid (RdLP s.data.toList w (.returned (.tuple #[.slice A2 j k2, .bool true])) wr) := Lib.hid (by
        refine ⟨A2, j, k2, by rw [HR.out], by omega, by rw [HR.out]; exact HO.out.mono hs1, B1.out.trans (HB.out.mono hs1)⟩)
      clear hnx HX hje HO HB HR
      go_wp2_with fail
      exact bodyPost_ret (v := .tuple #[.slice A2 j k2, .bool true]) (by simp [results, Tryd.results8, go_sem]) rfl HF.out
end Go.Proofs.YtickepianllblaaDoor
