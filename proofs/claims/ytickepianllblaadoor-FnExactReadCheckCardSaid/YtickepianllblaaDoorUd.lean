/- Reading of texts: the reference's splitting. -/
import Derived.Test.YtickepianllblaaDoorUc
import Derived.Test.YtickepianllblaaDoorC
namespace Go.Proofs.YtickepianllblaaDoor
open Go.RowKit
set_option maxRecDepth 100000
set_option linter.unusedVariables false
set_option linter.unusedSimpArgs false

theorem info_stringU : (Tryd.prog.info? 9).map (fun i => (i.zero, i.size, i.bytes)) = some (some (.string ByteArray.empty), 1, 16) := by kernel_rfl
theorem sp_drop_hit {c : UInt8} {l : List UInt8} {f i : Nat} (hf : f ≤ i) (hi : i < l.length) (hc : l.getD i 0 = c) (hn : c ∉ (l.drop f).take (i - f)) : sp c (l.drop f) = (l.drop f).take (i - f) :: sp c (l.drop (i + 1)) := by
  have e : l.drop f = (l.drop f).take (i - f) ++ c :: l.drop (i + 1) := by
    have h1 : (l.drop f).drop (i - f) = l.drop i := by rw [List.drop_drop]; congr 1; omega
    have h2 : l.drop i = c :: l.drop (i + 1) := by
      rw [List.drop_eq_getElem_cons hi]
      congr 1
      rw [← hc]; simp [List.getD, List.getElem?_eq_getElem hi]
    rw [← h2, ← h1, List.take_append_drop]
  conv => lhs; rw [e]
  exact sp_hit c _ _ hn
theorem take_drop_next {c : UInt8} {l : List UInt8} {f i : Nat} (hf : f ≤ i) (hi : i < l.length) (hc : l.getD i 0 ≠ c) (hn : c ∉ (l.drop f).take (i - f)) : c ∉ (l.drop f).take (i + 1 - f) := by
  rw [show i + 1 - f = (i - f) + 1 by omega, List.take_add_one]
  have : (l.drop f)[i - f]? = some (l.getD i 0) := by
    rw [List.getElem?_drop, show f + (i - f) = i by omega, List.getElem?_eq_getElem hi]
    simp [List.getD, List.getElem?_eq_getElem hi]
  rw [this]
  simp only [Option.toList_some, List.mem_append, List.mem_singleton, not_or]
  exact ⟨hn, fun e => hc e.symm⟩
theorem ext_data (s : ByteArray) (f i : Nat) : (s.extract f i).data.toList = (s.data.toList.drop f).take (i - f) := by
  rw [Lib.extract_data]
def SplP (l : List UInt8) (c : UInt8) (w : World) (e : Ending) (w' : World) : Prop := ∃ (A : Option Addr) (k : Nat) (ps : List ByteArray), e = .returned (.slice A ps.length k) ∧ ps.map (·.data.toList) = sp c l ∧ Own w' w.heap.size 9 1 A ps.length k (ps.map Value.string) ∧ Below w.heap.size w w'
set_option maxHeartbeats 4000000 in
theorem l01Split_any {s : ByteArray} {c : UInt8} {w : World} (hs : s.size ≤ 1048576) :
    Calls Tryd.prog 7 #[.string s, .int .u8 (c.toNat : Int)] w (SplP s.data.toList c w) := by
  obtain ⟨i0, hi, hz0, hz1, hz2⟩ := info_parts info_stringU
  have hlen := bytes_len s
  have O1 := Lib.hid (Own.empty w w.heap.size 9 1 (Nat.le_refl _))
  have B1 : Hid (Below w.heap.size w (w.alloc (.cells #[] 9))) := Lib.hid ((Below.refl _ _).alloc (Nat.le_refl _) _)
  go_enter Tryd.func7, Tryd.ntmps7
  go_wp2_with fail
  generalize w.alloc (.cells #[] 9) = w1 at *
  go_loopg [5, 6, 7] s.size (fun gk vo vf vi wr => ∃ (i f k : Nat) (A : Option Addr) (ps : List ByteArray), i ≤ s.size ∧ gk + i = s.size ∧ f ≤ i ∧ vi = .int .i64 (i : Int) ∧ vf = .int .i64 (f : Int) ∧ vo = .slice A ps.length k ∧ ps.length ≤ i ∧
    Hid (ps.map (·.data.toList) ++ sp c (s.data.toList.drop f) = sp c s.data.toList) ∧ Hid (c ∉ (s.data.toList.drop f).take (i - f)) ∧ Own wr w.heap.size 9 1 A ps.length k (ps.map Value.string) ∧ Below w.heap.size w wr)
  case atStart => exact ⟨0, 0, _, _, [], by omega, by omega, by omega, rfl, rfl, rfl, by simp, Lib.hid (by simp), Lib.hid (by simp), O1.out, B1.out⟩
  case round =>
    clear O1 B1
    obtain ⟨i, f, k, A, ps, hil, hgk, hfi, rfl, rfl, rfl, hpl, HS, HN, ho, hb⟩ := hrel
    have Hgk := Lib.hid hgk
    have HO := Lib.hid ho
    have HB := Lib.hid hb
    have hbs := hb.size
    clear hgk ho hb
    have hi0 : (0 : Int) ≤ (i : Int) := by omega
    have hf0 : (0 : Int) ≤ (f : Int) := by omega
    have hf1 : (f : Int) ≤ (i : Int) := by omega
    have qi : IntKind.i64.wrap ((i : Int) + 1) = (i : Int) + 1 := IntWalk.i64_in _ (by omega)
    by_cases hlt : i < s.size
    · have hi1 : (i : Int) < (s.size : Int) := by omega
      have hi2 : (i : Int) ≤ (s.size : Int) := by omega
      have qk := byt_get s i hlt
      rw [byt_at hlt] at qk
      by_cases hc : s.data.toList.getD i 0 = c
      · have HH := Lib.hid (sp_drop_hit hfi (by omega) hc HN.out)
        rw [hc] at qk
        have qb : ((c.toNat : Int) == (c.toNat : Int)) = true := beq_self_eq_true _
        clear hc
        go_wp2_with (at_builtin; refine wpList_app rfl _ _ 28 rfl 9 i0 _ 1 16 Tryd.underlying28 hi hz0 hz1 hz2 rfl (by omega) (by omega) w.heap.size _ _ _ _ rfl (HO.out.alloc _) ⟨wr.heap.size, 0, none⟩ 1 1 [.string (s.extract f i)] rfl rfl (cell_one_new _ _ _) (by simp [Value.oneCell']) (by omega) (by simp; omega) ?_)
        intro A3 c3 w5 ho3 hgA hbA hat
        have ho4 : Own w5 w.heap.size 9 1 A3 (ps ++ [s.extract f i]).length c3 ((ps ++ [s.extract f i]).map Value.string) := by rw [List.map_append, List.length_append]; exact ho3
        have hb5 : Below w.heap.size w w5 := (HB.out.alloc hbs _).trans hbA
        have HS2 : Hid ((ps ++ [s.extract f i]).map (·.data.toList) ++ sp c (s.data.toList.drop (i + 1)) = sp c s.data.toList) := Lib.hid (by
          rw [List.map_append, List.append_assoc, ← HS.out, HH.out, List.map_singleton, ext_data]; rfl)
        clear ho3 hgA hbA hat HO HB HH
        go_wp2_with fail
        have hgk := Hgk.out
        go_roundg (gk - 1)
        case rel => exact ⟨i + 1, i + 1, c3, A3, ps ++ [s.extract f i], by omega, by omega, by omega, by go_num, by go_num, by rw [List.length_append]; rfl, by simp; omega, HS2, Lib.hid (by simp), ho4, hb5⟩
        case measure => omega
      · have HN2 := Lib.hid (take_drop_next hfi (by omega) hc HN.out)
        have qb : (((s.data.toList.getD i 0).toNat : Int) == (c.toNat : Int)) = false := by
          rw [beq_eq_false_iff_ne]
          intro e
          exact hc (UInt8.toNat_inj.1 (by omega))
        generalize s.data.toList.getD i 0 = b at *
        clear hc
        go_wp2_with fail
        have hgk := Hgk.out
        go_roundg (gk - 1)
        case rel => exact ⟨i + 1, f, k, A, ps, by omega, by omega, by omega, by go_num, rfl, rfl, by omega, HS, HN2, HO.out, HB.out⟩
        case measure => omega
    · have hi1 : ¬ (i : Int) < (s.size : Int) := by omega
      have hie : i = s.size := by omega
      have hf2 : (f : Int) ≤ (s.size : Int) := by omega
      go_wp2_with (at_builtin; refine wpList_app rfl _ _ 28 rfl 9 i0 _ 1 16 Tryd.underlying28 hi hz0 hz1 hz2 rfl (by omega) (by omega) w.heap.size _ _ _ _ rfl (HO.out.alloc _) ⟨wr.heap.size, 0, none⟩ 1 1 [.string (s.extract f s.size)] rfl rfl (cell_one_new _ _ _) (by simp [Value.oneCell']) (by omega) (by simp; omega) ?_)
      intro A3 c3 w5 ho3 hgA hbA hat
      have HF : Hid (SplP s.data.toList c w (.returned (.slice A3 (ps.length + 1) c3)) w5) := Lib.hid (by
        refine ⟨A3, c3, ps ++ [s.extract f s.size], by rw [List.length_append]; rfl, ?_, by rw [List.map_append, List.length_append]; exact ho3, (HB.out.alloc hbs _).trans hbA⟩
        have hn := HN.out
        rw [hie, List.take_of_length_le (by rw [List.length_drop, hlen]; omega)] at hn
        rw [List.map_append, ← HS.out, sp_none c _ hn, List.map_singleton, ext_data, List.take_of_length_le (by rw [List.length_drop, hlen]; omega)])
      clear ho3 hgA hbA hat HO HB HS HN
      generalize ps.length = pn at *
      go_wp2_with fail
      exact bodyPost_ret (v := .slice A3 (pn + 1) c3) (by simp [results, Tryd.results7, go_sem]) rfl HF.out
end Go.Proofs.YtickepianllblaaDoor
