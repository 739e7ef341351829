/- Contracts of the functions that copy, compare, mark and read slices of int64. -/
import Derived.Test.YtickepianllblaaGreatDoorN
namespace Go.Proofs.YtickepianllblaaGreatDoor
open Go.RowKit
set_option maxRecDepth 100000
set_option linter.unusedVariables false

theorem info_int : (Tryz.prog.info? 2).map (fun i => (i.zero, i.size, i.bytes)) = some (some (.int .i64 0), 1, 8) := by kernel_rfl



/-- The numbers k, k + 1, .. (n of them). -/
def marks (k : Int) (n : Nat) : List Int := (List.range n).map fun i : Nat => k + (i : Int)
theorem marks_len (k : Int) (n : Nat) : (marks k n).length = n := by simp [marks]
theorem marks_nth {k : Int} {n i : Nat} (h : i < n) : nth (marks k n) i = k + i := by
  rw [nth_eq (by simpa [marks] using h)]; simp [marks]
theorem marks_set {zs : List Int} {k : Int} {n i : Nat} (h : i < n) (hl : zs.length = n) :
    ((marks k i ++ zs.drop i).map (Value.int .i64)).set i (.int .i64 (k + i)) = (marks k (i + 1) ++ zs.drop (i + 1)).map (Value.int .i64) := by
  rw [← List.map_set]
  congr 1
  rw [List.set_append_right _ _ (by simp [marks])]
  simp only [marks_len, Nat.sub_self]
  rw [List.drop_eq_getElem_cons (by omega), List.set_cons_zero]
  simp [marks, List.range_succ]
theorem marks_get {zs : List Int} {k : Int} {n i : Nat} (h : i < n) (hl : zs.length = n) :
    ((marks k i ++ zs.drop i).map (Value.int .i64))[i]? = some (.int .i64 (nth zs i)) := by
  rw [List.getElem?_map, List.getElem?_append_right (by simp [marks])]
  simp only [marks_len, Nat.sub_self]
  rw [List.getElem?_drop, Nat.add_zero, getElem?_nth (by omega)]; rfl



/-- The index of the first number of which f holds; -1 if there is none. -/
def findI (f : Int → Bool) (zs : List Int) : Int := match zs.findIdx? f with | some i => i | none => -1
theorem findI_some {f : Int → Bool} {zs : List Int} {k : Nat} (hk : k < zs.length) (h0 : (zs.take k).any f = false) (h1 : f (nth zs k) = true) : findI f zs = k := by
  have : zs.findIdx? f = some k := by
    rw [List.findIdx?_eq_some_iff_getElem]
    refine ⟨hk, by rw [← nth_eq hk]; exact h1, fun j hj => ?_⟩
    rw [List.any_eq_false] at h0
    exact h0 _ (List.mem_take_iff_getElem.2 ⟨j, by omega, rfl⟩)
  rw [findI, this]
theorem findI_none {f : Int → Bool} {zs : List Int} (h0 : zs.any f = false) : findI f zs = -1 := by
  have : zs.findIdx? f = none := by
    rw [List.findIdx?_eq_none_iff]
    intro x hx
    rw [List.any_eq_false] at h0
    simpa using h0 x hx
  rw [findI, this]
theorem findI_any (f : Int → Bool) (zs : List Int) : decide (0 ≤ findI f zs) = zs.any f := by
  cases h : zs.any f with
  | false => rw [findI_none h]; rfl
  | true =>
    unfold findI
    cases h' : zs.findIdx? f with
    | some i => simp
    | none =>
      rw [List.findIdx?_eq_none_iff] at h'
      rw [List.any_eq_true] at h
      obtain ⟨x, hx, hfx⟩ := h
      simp [h' x hx] at hfx
theorem any_take_succ {zs : List Int} {k : Nat} {f : Int → Bool} (h : k < zs.length) : (zs.take (k + 1)).any f = ((zs.take k).any f || f (nth zs k)) := by
  rw [take_succ_nth h]; simp
theorem findI_le (f : Int → Bool) (zs : List Int) : -1 ≤ findI f zs ∧ findI f zs < zs.length := by
  unfold findI
  split
  · rename_i i h
    rw [List.findIdx?_eq_some_iff_getElem] at h
    obtain ⟨h, _⟩ := h
    omega
  · omega

theorem indexFunc_any (K : Nat) (hK : ∀ args w, (callFunc K args).run Tryz.prog w = .ok (.enter K args) w) (f : Int → Bool) (hf : Hid (∀ z w, Calls Tryz.prog K #[.int .i64 z] w fun e w' => e = .returned (.bool (f z)) ∧ w = w'))
    (A : Option Addr) (n c B : Nat) (zs : List Int) (w : World) (h : Ints w B A n zs) (hn : n ≤ 140737488351232) :
    Calls Tryz.prog 65 #[.slice A n c, .func (.func K) #[] #[]] w fun e w' => e = .returned (.int .i64 (findI f zs)) ∧ w = w' := by
  have HL := Lib.hid h.len
  go_enter Tryz.func65, Tryz.ntmps65
  go_wp2_with fail
  go_loopg [8] n (fun gk i wr => ∃ k : Nat, k ≤ n ∧ gk + k = n ∧ i = .int .i64 k ∧ wr = w ∧ (zs.take k).any f = false)
  case atStart => exact ⟨0, Nat.zero_le _, rfl, rfl, rfl, rfl⟩
  case round =>
    obtain ⟨k, hk, hgk, rfl, rfl, hall⟩ := hrel
    have Hgk := Lib.hid hgk
    have Hall := Lib.hid hall
    clear hgk hall
    by_cases hlt : k < n
    · obtain ⟨ad, rfl, hbl, hc⟩ := h.at_ hlt
      go_wp2_with fail
      refine (hf.out _ _).mono ?_
      rintro e w' ⟨rfl, rfl⟩
      go_wp2_with fail
      · go_ret
        exact ⟨ret_int (by rw [findI_some (by rw [HL.out]; omega) Hall.out (by assumption)]), rfl⟩
      · have hf' : f (nth zs k) = false := by assumption
        have hgk := Hgk.out
        go_roundg (gk - 1)
        case rel => exact ⟨k + 1, by omega, by omega, by go_num, rfl, by rw [any_take_succ (by rw [HL.out]; omega), Hall.out, hf']; rfl⟩
        case measure => omega
    · have Hn : Hid (zs.any f = false) := by
        have := Hall.out
        rwa [List.take_of_length_le (by rw [HL.out]; omega)] at this
      go_wp2
      go_ret
      exact ⟨ret_int (by rw [findI_none Hn.out]), rfl⟩
theorem containsFunc_any (K : Nat) (hK : Hid (∀ args w, (callFunc K args).run Tryz.prog w = .ok (.enter K args) w)) (f : Int → Bool) (hf : Hid (∀ z w, Calls Tryz.prog K #[.int .i64 z] w fun e w' => e = .returned (.bool (f z)) ∧ w = w'))
    (A : Option Addr) (n c B : Nat) (zs : List Int) (w : World) (h : Ints w B A n zs) (hn : n ≤ 140737488351232) :
    Calls Tryz.prog 51 #[.slice A n c, .func (.func K) #[] #[]] w fun e w' => e = .returned (.bool (zs.any f)) ∧ w = w' := by
  go_enter Tryz.func51, Tryz.ntmps51
  go_wp2_with (go_at_call 65; refine (indexFunc_any K hK.out f hf A n c B zs _ h hn).mono ?_; rintro e w' ⟨rfl, rfl⟩)
  go_ret
  exact ⟨ret_bool (findI_any f zs), rfl⟩
end Go.Proofs.YtickepianllblaaGreatDoor
