/- Reading of arrivals: the reference's. -/
import Derived.Test.YtffjggdbgogkbaaDoorUd
namespace Go.Proofs.YtffjggdbgogkbaaDoor
open Go.RowKit
set_option maxRecDepth 100000
set_option linter.unusedVariables false
set_option linter.unusedSimpArgs false

theorem sp_short (c : UInt8) : ∀ (l : List UInt8), (sp c l).length ≤ l.length + 1 ∧ ∀ w ∈ sp c l, w.length ≤ l.length := by
  intro l
  induction l with
  | nil => simp [sp]
  | cons b l ih =>
    rw [sp]
    split
    · refine ⟨by simp; omega, fun w hw => ?_⟩
      rcases List.mem_cons.1 hw with rfl | hw
      · simp
      · have := ih.2 w hw; simp; omega
    · split
      · exact ⟨by simp, fun w hw => by rw [List.mem_singleton] at hw; rw [hw]; simp⟩
      · rename_i w0 ws hs
        rw [hs] at ih
        refine ⟨by simp at ih ⊢; omega, fun w hw => ?_⟩
        rcases List.mem_cons.1 hw with rfl | hw
        · have := ih.2 w0 (by simp); simp; omega
        · have := ih.2 w (by simp [hw]); simp; omega
theorem numsL_snoc : ∀ (a : List (List UInt8)) (xs : List Int) (w : List UInt8), numsL a = some xs → numsL (a ++ [w]) = (numL w).map (fun n => xs ++ [n]) := by
  intro a
  induction a with
  | nil =>
    intro xs w h
    rw [numsL] at h
    injection h with h
    subst h
    rw [List.nil_append, numsL]
    cases numL w <;> simp [numsL]
  | cons v a ih =>
    intro xs w h
    obtain ⟨n, r, rfl, h1, h2⟩ := numsL_cons h
    rw [List.cons_append, numsL, h1]
    simp only
    rw [ih r w h2]
    cases numL w <;> rfl
theorem numsL_bad : ∀ (a b : List (List UInt8)) (w : List UInt8), numL w = none → numsL (a ++ w :: b) = none := by
  intro a
  induction a with
  | nil => intro b w h; rw [List.nil_append, numsL, h]
  | cons v a ih =>
    intro b w h
    rw [List.cons_append, numsL, ih b w h]
    cases numL v <;> rfl
theorem read_nums {l : List UInt8} {xs : List Int} (h : numsL (sp 43 l) = some xs) : rReadArr l = if arrB xs then (xs, true) else ([], false) := by unfold rReadArr; rw [h]
theorem read_none {l : List UInt8} (h : numsL (sp 43 l) = none) : rReadArr l = ([], false) := by unfold rReadArr; rw [h]
def RdP (l : List UInt8) (w : World) (e : Ending) (w' : World) : Prop := ∃ (A : Option Addr) (n k : Nat), e = .returned (.tuple #[.slice A n k, .bool (rReadArr l).2]) ∧ n ≤ 1048576 ∧ Own w' w.heap.size 2 1 A n k ((rReadArr l).1.map (Value.int .i64)) ∧ Below w.heap.size w w'
set_option maxHeartbeats 4000000 in
theorem l20Read_any {s : ByteArray} {w : World} (hs : s.size ≤ 1048576) : Calls Tryd.prog 9 #[.string s] w (RdP s.data.toList w) := by
  obtain ⟨i0, hi, hz0, hz1, hz2⟩ := info_parts info_int
  have hlen := bytes_len s
  go_enter Tryd.func9, Tryd.ntmps9
  go_wp2_with fail
  refine (l01Split_any (c := 43) hs).mono ?_
  rintro e w1 ⟨A, k, ps, rfl, hps, o1, b1⟩
  have hsh := sp_short 43 s.data.toList
  rw [← hps] at hsh
  have hpl : ps.length ≤ 1048577 := by have := hsh.1; rw [List.length_map, hlen] at this; omega
  have Hw : Hid (∀ j, j < ps.length → (ps.getD j ⟨#[]⟩).size ≤ 1048576 ∧ (ps.map (·.data.toList)).getD j [] = (ps.getD j ⟨#[]⟩).data.toList) := Lib.hid (fun j hj => by
    have e1 : ps.getD j ⟨#[]⟩ = ps[j] := by simp [List.getD, List.getElem?_eq_getElem hj]
    refine ⟨?_, by simp [List.getD, List.getElem?_eq_getElem hj]⟩
    rw [e1]
    have := hsh.2 ps[j].data.toList (List.mem_map.2 ⟨_, List.getElem_mem hj, rfl⟩)
    rw [hlen, bytes_len] at this
    omega)
  have HP := Lib.hid hps
  have R1 : Hid (Reads w1 w1.heap.size 1 A ps.length (ps.map Value.string)) := Lib.hid o1.reads
  have B1 := Lib.hid b1
  have hs1 := b1.size
  have O2 := Lib.hid (Own.empty w1 w1.heap.size 2 1 (Nat.le_refl _))
  have B2 : Hid (Below w1.heap.size w1 (w1.alloc (.cells #[] 2))) := Lib.hid ((Below.refl _ _).alloc (Nat.le_refl _) _)
  clear o1 b1 hsh hps
  obtain ⟨np, hnp⟩ : ∃ n, ps.length = n := ⟨_, rfl⟩
  have Hnp := Lib.hid hnp
  rw [hnp] at hpl R1 ⊢
  clear hnp
  go_wp2_with fail
  generalize w1.alloc (.cells #[] 2) = w2 at *
  go_loopg [5, 6] np (fun gk vo vi wr => ∃ (j k2 : Nat) (A2 : Option Addr) (xs : List Int), j ≤ np ∧ gk + j = np ∧ vi = .int .i64 (j : Int) ∧ vo = .slice A2 j k2 ∧ xs.length = j ∧ Hid (numsL ((ps.map (·.data.toList)).take j) = some xs) ∧ Own wr w1.heap.size 2 1 A2 j k2 (xs.map (Value.int .i64)) ∧ Below w1.heap.size w1 wr)
  case atStart => exact ⟨0, _, _, [], by omega, by omega, rfl, rfl, rfl, Lib.hid (by simp [numsL]), O2.out, B2.out⟩
  case round =>
    clear O2 B2
    obtain ⟨j, k2, A2, xs, hj, hgk, rfl, rfl, hxl, HX, ho, hb⟩ := hrel
    have Hgk := Lib.hid hgk
    have HO := Lib.hid ho
    have HB := Lib.hid hb
    have Hxl := Lib.hid hxl
    have hbs := hb.size
    clear hgk ho hb hxl
    have hj0 : (0 : Int) ≤ (j : Int) := by omega
    have qj : IntKind.i64.wrap ((j : Int) + 1) = (j : Int) + 1 := IntWalk.i64_in _ (by omega)
    by_cases hlt : j < np
    · have hjl : j < ps.length := by rw [Hnp.out]; exact hlt
      obtain ⟨ad, u, hA, hbl, hu, hcell⟩ := Reads.at_ (Reads.below R1.out HB.out (Nat.le_refl _)) hlt
      have hu2 : u = .string (ps.getD j ⟨#[]⟩) := by
        rw [List.getElem?_map, List.getElem?_eq_getElem hjl] at hu
        simp [List.getD, List.getElem?_eq_getElem hjl] at hu ⊢
        exact hu.symm
      subst hu2
      subst hA
      obtain ⟨hz, hd⟩ := Hw.out j hjl
      have htk : (ps.map (·.data.toList)).take (j + 1) = (ps.map (·.data.toList)).take j ++ [(ps.getD j ⟨#[]⟩).data.toList] := by
        rw [List.take_add_one, List.getElem?_map, List.getElem?_eq_getElem hjl]
        simp [List.getD, List.getElem?_eq_getElem hjl]
      have hdr : sp 43 s.data.toList = (ps.map (·.data.toList)).take j ++ (ps.getD j ⟨#[]⟩).data.toList :: (ps.map (·.data.toList)).drop (j + 1) := by
        rw [← HP.out]
        have h1 : (ps.map (·.data.toList)).take (j + 1) ++ (ps.map (·.data.toList)).drop (j + 1) = ps.map (·.data.toList) := List.take_append_drop _ _
        rw [htk, List.append_assoc] at h1
        exact h1.symm
      clear hu hd
      generalize ps.getD j ⟨#[]⟩ = p at *
      have hj1 : (j : Int) < (np : Int) := by omega
      have Hnum := Lib.hid (l01Number_any (w := wr) hz)
      cases hn : numL p.data.toList with
      | none =>
        have HR := Lib.hid (read_none (l := s.data.toList) (by rw [hdr]; exact numsL_bad _ _ _ hn))
        have HN : Hid (numR p.data.toList = (0, false)) := Lib.hid (by unfold numR; rw [hn])
        have HF : Hid (RdP s.data.toList w (.returned (.tuple #[.slice none 0 0, .bool false])) wr) := Lib.hid (by
          rw [show (RdP s.data.toList w) = RdP s.data.toList w from rfl]
          refine ⟨none, 0, 0, by rw [HR.out], by omega, by rw [HR.out]; exact Own.nil _ _ _ _, B1.out.trans (HB.out.mono hs1)⟩)
        clear hn hdr htk
        go_wp2_with fail
        refine Hnum.out.mono ?_
        rintro e w' ⟨rfl, rfl⟩
        rw [HN.out]
        go_wp2_with fail
        exact bodyPost_ret (v := .tuple #[.slice none 0 0, .bool false]) (by simp [results, Tryd.results9, go_sem]) rfl HF.out
      | some z =>
        have HN : Hid (numR p.data.toList = (z, true)) := Lib.hid (by unfold numR; rw [hn])
        have HX2 : Hid (numsL ((ps.map (·.data.toList)).take (j + 1)) = some (xs ++ [z])) := Lib.hid (by rw [htk, numsL_snoc _ _ _ HX.out, hn]; rfl)
        clear hn hdr htk
        go_wp2_with fail
        refine Hnum.out.mono ?_
        rintro e w' ⟨rfl, rfl⟩
        rw [HN.out]
        go_wp2_with (at_builtin; refine wpList_app rfl _ _ 22 rfl 2 i0 _ 1 8 Tryd.underlying22 hi hz0 hz1 hz2 rfl (by omega) (by omega) w1.heap.size _ _ _ _ rfl (HO.out.alloc _) ⟨wr.heap.size, 0, none⟩ 1 1 [.int .i64 z] rfl rfl (cell_one_new _ _ _) (by simp [Value.oneCell']) (by omega) (by simp; omega) ?_)
        intro A3 c3 w5 ho3 hgA hbA hat
        have ho4 : Own w5 w1.heap.size 2 1 A3 (j + 1) c3 ((xs ++ [z]).map (Value.int .i64)) := by rw [List.map_append]; exact ho3
        have hb5 : Below w1.heap.size w1 w5 := (HB.out.alloc hbs _).trans hbA
        clear ho3 hgA hbA hat HO HB
        go_wp2_with fail
        have hgk := Hgk.out
        go_roundg (gk - 1)
        case rel => exact ⟨j + 1, c3, A3, xs ++ [z], by omega, by omega, by go_num, rfl, by simp [Hxl.out], HX2, ho4, hb5⟩
        case measure => omega
    · have hje : j = np := by omega
      have hnx : numsL (sp 43 s.data.toList) = some xs := by
        have := HX.out
        rwa [List.take_of_length_le (by rw [List.length_map, Hnp.out]; omega), HP.out] at this
      have HR := Lib.hid (read_nums hnx)
      have hj1 : ¬ (j : Int) < (np : Int) := by omega
      have R2 : Hid (Ints wr wr.heap.size A2 j xs) := Lib.hid HO.out.reads
      clear hnx HX hje
      cases hv : arrB xs with
      | false =>
        have HF : Hid (RdP s.data.toList w (.returned (.tuple #[.slice none 0 0, .bool false])) wr) := Lib.hid (by
          refine ⟨none, 0, 0, by rw [HR.out, hv]; rfl, by omega, by rw [HR.out, hv]; exact Own.nil _ _ _ _, B1.out.trans (HB.out.mono hs1)⟩)
        have HV := Lib.hid hv
        clear hv
        go_wp2_with fail
        refine (l20Ok_any A2 j k2 _ xs wr R2.out (by omega)).mono ?_
        rintro e w' ⟨rfl, rfl⟩
        rw [HV.out]
        go_wp2_with fail
        exact bodyPost_ret (v := .tuple #[.slice none 0 0, .bool false]) (by simp [results, Tryd.results9, go_sem]) rfl HF.out
      | true =>
        have hjs : j ≤ 60 := by have := (arrB_true.1 hv).2.2; rw [Hxl.out] at this; omega
        have HF : Hid (RdP s.data.toList w (.returned (.tuple #[.slice A2 j k2, .bool true])) wr) := Lib.hid (by
          refine ⟨A2, j, k2, by rw [HR.out, hv]; rfl, by omega, by rw [HR.out, hv]; exact HO.out.mono hs1, B1.out.trans (HB.out.mono hs1)⟩)
        have HV := Lib.hid hv
        clear hv
        go_wp2_with fail
        refine (l20Ok_any A2 j k2 _ xs wr R2.out (by omega)).mono ?_
        rintro e w' ⟨rfl, rfl⟩
        rw [HV.out]
        go_wp2_with fail
        exact bodyPost_ret (v := .tuple #[.slice A2 j k2, .bool true]) (by simp [results, Tryd.results9, go_sem]) rfl HF.out
theorem specReadArrivals_any {s : ByteArray} {w : World} (hs : s.size ≤ 1048576) : Calls Tryd.prog 4 #[.string s] w (RdP s.data.toList w) := by
  go_enter Tryd.func4, Tryd.ntmps4
  go_wp2_with fail
  refine (l20Read_any hs).mono ?_
  rintro e w1 ⟨A, n, k, rfl, hn, o, b⟩
  have HF : Hid (RdP s.data.toList w (.returned (.tuple #[.slice A n k, .bool (rReadArr s.data.toList).2])) w1) := Lib.hid ⟨A, n, k, rfl, hn, o, b⟩
  clear o b
  go_wp2_with fail
  exact bodyPost_ret (v := .tuple #[.slice A n k, .bool (rReadArr s.data.toList).2]) (by simp [results, Tryd.results4, go_sem]) rfl HF.out
end Go.Proofs.YtffjggdbgogkbaaDoor
