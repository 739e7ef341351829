/- Texts of lists of numbers of either sign: the program's. -/
import Derived.Test.YtickepianllblaaGreatDoorUh
namespace Go.Proofs.YtickepianllblaaGreatDoor
open Go.RowKit
set_option maxRecDepth 100000
set_option linter.unusedVariables false
set_option linter.unusedSimpArgs false

theorem any_inV (zs : List Int) : zs.any (fun z => !inB z (-1000000000000) 1000000000000) = !zs.all inV := by
  induction zs with
  | nil => rfl
  | cons z zs ih => rw [List.any_cons, List.all_cons, ih]; unfold inV; simp [Bool.not_and]
theorem nth_getD (zs : List Int) (k : Nat) : nth zs k = zs.getD k 0 := rfl
theorem getD_memI {zs : List Int} {k : Nat} (h : k < zs.length) : zs.getD k 0 ∈ zs := by rw [List.getD_eq_getElem?_getD, List.getElem?_eq_getElem h]; exact List.getElem_mem h
theorem take_snocI {zs : List Int} {k : Nat} (h : k < zs.length) : zs.take (k + 1) = zs.take k ++ [zs.getD k 0] := by
  rw [List.take_add_one, List.getElem?_eq_getElem h, List.getD_eq_getElem?_getD, List.getElem?_eq_getElem h]; rfl
set_option maxHeartbeats 1000000 in
theorem implListText_int {A : Option Addr} {n c B : Nat} {zs : List Int} {w : World} (h : Ints w B A n zs) (hB : B ≤ w.heap.size) (hn : n ≤ 1048577) (h0 : 0 < n) (ht : TabOk w) :
    Calls Tryz.prog 31 #[.slice A n c] w fun e w' => e = .returned (.string ⟨(rListL zs).toArray⟩) ∧ Below w.heap.size w w' := by
  have HL : Hid (zs.length = n) := Lib.hid h.len
  have Hh := Lib.hid h
  have Ht := Lib.hid ht
  have hne0 : ((n : Int) == 0) = false := by rw [beq_eq_false_iff_ne]; omega
  obtain ⟨i0, hi, hz0, hz1, hz2⟩ := info_parts info_stringT
  clear ht
  by_cases h64 : 64 < n
  · have hr : rListL zs = [] := by
      unfold rListL
      rw [if_neg]
      intro hk
      have := (okL_true.1 hk).1
      rw [HL.out] at this
      omega
    have Hr : Hid ((⟨(rListL zs).toArray⟩ : ByteArray) = ⟨#[]⟩) := Lib.hid (by rw [hr])
    rw [Hr.out]
    have hd64 : (64 : Int) < (n : Int) := by omega
    clear hr
    go_enter Tryz.func31, Tryz.ntmps31
    go_wp2_with fail
    go_ret
    exact ⟨rfl, Below.refl _ _⟩
  have hd64 : ¬ (64 : Int) < (n : Int) := by omega
  have HC0 : Hid (Calls Tryz.prog 51 #[.slice A n c, .func (.func 52) #[] #[]] w fun e w' => e = .returned (.bool (!zs.all inV)) ∧ w = w') := Lib.hid (by
    have := containsFunc_any _ (Lib.hid Tryz.call52) (fun z => !inB z (-1000000000000) 1000000000000) (Lib.hid listText1_any) A n c B zs w h (by omega)
    rw [any_inV] at this
    exact this)
  cases hall : zs.all inV with
  | false =>
    have hr : rListL zs = [] := by
      unfold rListL okL
      rw [hall, Bool.and_false]
      rfl
    have Hr : Hid ((⟨(rListL zs).toArray⟩ : ByteArray) = ⟨#[]⟩) := Lib.hid (by rw [hr])
    rw [Hr.out]
    rw [hall] at HC0
    clear hr hall
    go_enter Tryz.func31, Tryz.ntmps31
    go_wp2_with fail
    refine HC0.out.mono ?_
    rintro e w' ⟨rfl, rfl⟩
    go_wp2_with fail
    go_ret
    exact ⟨rfl, Below.refl _ _⟩
  | true =>
    have hok : okL zs = true := by
      unfold okL
      rw [hall, HL.out]
      simp
      omega
    have Hok := Lib.hid hok
    have Hv := Lib.hid (okL_true.1 hok).2
    have Hcf : Hid (Calls Tryz.prog 51 #[.slice A n c, .func (.func 52) #[] #[]] w fun e w' => e = .returned (.bool false) ∧ w = w') := Lib.hid (by
      have := HC0.out
      rw [hall] at this
      exact this)
    have Hr : Hid ((⟨(rListL zs).toArray⟩ : ByteArray) = ⟨(itoas zs).toArray⟩) := Lib.hid (by unfold rListL; rw [if_pos hok])
    rw [Hr.out]
    clear HC0 hok hall
    go_enter Tryz.func31, Tryz.ntmps31
    go_wp2_with fail
    refine Hcf.out.mono ?_
    rintro e w' ⟨rfl, rfl⟩
    go_wp2_with fail
    clear h
    go_loopg [3, 18] n (fun gk vo vi wr => ∃ (k : Nat) (A2 : Option Addr) (c2 : Nat), k ≤ n ∧ gk + k = n ∧ vi = .int .i64 (k : Int) ∧ vo = .slice A2 k c2 ∧ Own wr w.heap.size 9 1 A2 k c2 (iS zs k) ∧ Below w.heap.size w wr)
    case atStart => exact ⟨0, none, 0, by omega, by omega, rfl, rfl, Own.nil _ _ _ _, Below.refl _ _⟩
    case round =>
      obtain ⟨k, A2, c2, hk, hgk, rfl, rfl, ho, hb⟩ := hrel
      have Hgk := Lib.hid hgk
      have hbs := hb.size
      clear hgk
      by_cases hlt : k < n
      · obtain ⟨ad, rfl, hbl, hcell⟩ := Hh.out.at_ (k := k) hlt
        rw [nth_getD] at hcell
        have hcell2 := (hb.cell (p := ad.add k) (by rw [block_of_add]; omega)).trans hcell
        have hvk := Hv.out _ (getD_memI (k := k) (by rw [HL.out]; exact hlt))
        have Hs : Hid (iS zs (k + 1) = iS zs k ++ [.string (iA (zs.getD k 0))]) := Lib.hid (by
          unfold iS
          rw [take_snocI (by rw [HL.out]; exact hlt), List.map_append, List.map_append]; rfl)
        generalize zs.getD k 0 = v at *
        have hdec : Hid (∀ W, Below w.heap.size w W → Calls Tryz.prog 54 #[.int .i64 v] W fun e w' => e = .returned (.string (iA v)) ∧ Below W.heap.size W w') := Lib.hid (fun W hW => decimal_int (by omega) (by omega) (Ht.out.below hW))
        have hi0 : (0 : Int) ≤ (k : Int) := by omega
        have hi1 : (k : Int) < (n : Int) := by omega
        have hqk : IntKind.i64.wrap ((k : Int) + 1) = (k : Int) + 1 := IntWalk.i64_in _ (by omega)
        clear hcell
        generalize iA v = de at *
        have Ho := Lib.hid ho
        clear ho
        go_wp2_with fail
        refine (hdec.out _ hb).mono ?_
        rintro e w2 ⟨rfl, b2⟩
        have hb2 := hb.trans (b2.mono hbs)
        have hbs2 := hb2.size
        have ho2 := Ho.out.below b2
        clear b2 Ho
        go_wp2_with (at_builtin; refine wpList_app rfl _ _ 27 rfl 9 i0 _ 1 16 Tryz.underlying27 hi hz0 hz1 hz2 rfl (by omega) (by omega) w.heap.size _ _ _ _ rfl (ho2.alloc _) ⟨w2.heap.size, 0, none⟩ 1 1 [.string de] rfl rfl (cell_one_new _ _ _) (by simp [Value.oneCell']) (by omega) (by simp; omega) ?_)
        intro A3 c3 w3 ho3 hgA hbA hat
        have ho4 : Own w3 w.heap.size 9 1 A3 (k + 1) c3 (iS zs (k + 1)) := by rw [Hs.out]; exact ho3
        have hb4 : Below w.heap.size w w3 := (hb2.alloc hbs2 _).trans hbA
        clear ho3 hgA hbA hat ho2
        go_wp2_with fail
        have hgk := Hgk.out
        go_roundg (gk - 1)
        case rel => exact ⟨k + 1, A3, c3, by omega, by omega, by go_num, rfl, ho4, hb4⟩
        case measure => omega
      · have hke : n = k := by omega
        subst hke
        have hd : ¬ (n : Int) < (n : Int) := by omega
        have hjl : (Lib.join ((zs.map iA).map (·.data.toList)) [44]).length ≤ 140737488355328 := by
          rw [iA_join]
          have := itoas_len Hok.out
          unfold itoas at this
          omega
        have hcap := ho.cap
        unfold iS at ho
        rw [List.take_of_length_le (by rw [HL.out]; exact Nat.le_refl _)] at ho
        rcases ho.2 with ⟨e0, h00⟩ | ⟨g, cap, cur, e0, _⟩
        · injection e0 with _ e0; omega
        · injection e0 with e0 _ ec
          subst e0
          subst ec
          have hxl0 : (zs.map iA).length = n := by rw [List.length_map]; exact HL.out
          have hcells : ∀ (j : Nat) x, (zs.map iA)[j]? = some x → wr.cell? ⟨g, 0 + j, none⟩ = some (.string x) := by
            intro j x hx
            have hjl := (List.getElem?_eq_some_iff.1 hx).1
            rw [Nat.zero_add, Own.cellAt ho (by omega), List.getElem?_map, hx]; rfl
          have hg : g < wr.heap.size := (ho.block_lt _ rfl).2.2.2
          have cJ := Tryz.strings_Join g 0 c2 (zs.map iA) ⟨#[44]⟩ wr hcells hg (by omega) (by omega) hjl
          change Calls Tryz.prog 55 _ wr (fun e w' => e = .returned (.string ⟨(Lib.join ((zs.map iA).map (·.data.toList)) [44]).toArray⟩) ∧ _) at cJ
          rw [iA_join, hxl0] at cJ
          have HJ := Lib.hid cJ
          clear cJ hcells
          go_wp2_with fail
          refine HJ.out.mono ?_
          rintro e w' ⟨rfl, bJ⟩
          go_wp2_with fail
          go_ret
          exact ⟨rfl, hb.trans (bJ.mono hbs)⟩
end Go.Proofs.YtickepianllblaaGreatDoor
