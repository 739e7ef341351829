/- The reference's draw of helpers and of tasks, walked. -/
import Derived.Test.YtcacmiafmanniaaDr
namespace Go.Proofs.Ytcacmiafmanniaa
open Go.RowKit
set_option maxRecDepth 100000
set_option linter.unusedVariables false
set_option linter.unusedSimpArgs false

def hNames : List ByteArray := [⟨#[104, 97]⟩, ⟨#[104, 98]⟩, ⟨#[104, 99]⟩, ⟨#[104, 100]⟩, ⟨#[104, 101]⟩, ⟨#[104, 102]⟩]
def tNames : List ByteArray := [⟨#[116, 97]⟩, ⟨#[116, 98]⟩, ⟨#[116, 99]⟩, ⟨#[116, 100]⟩]
theorem names_le {ns : List ByteArray} (h : ∀ x ∈ ns, x.size ≤ 1048576) {i : Nat} (hi : i < ns.length) : (ns.getD i ⟨#[]⟩).size ≤ 1048576 := by
  have e : ns.getD i ⟨#[]⟩ = ns[i] := by simp [List.getD, List.getElem?_eq_getElem hi]
  rw [e]; exact h _ (List.getElem_mem hi)
theorem hNames_le : ∀ x ∈ hNames, x.size ≤ 1048576 := by
  intro x hx
  simp only [hNames, List.mem_cons, List.not_mem_nil, or_false] at hx
  rcases hx with rfl | rfl | rfl | rfl | rfl | rfl <;> decide
theorem tNames_le : ∀ x ∈ tNames, x.size ≤ 1048576 := by
  intro x hx
  simp only [tNames, List.mem_cons, List.not_mem_nil, or_false] at hx
  rcases hx with rfl | rfl | rfl | rfl <;> decide
set_option maxHeartbeats 16000000 in
theorem l24Draw_any {B b n c k : Nat} {A : Option Addr} {zs : List Int} {w0 w : World} (h : DS B b A n c zs w0 w k) (hk : k ≤ 1000) :
    Calls Try.prog 16 #[.pointer (some ⟨b, 0, none⟩)] w (DrawHT B b n c (k + 400) A zs w0 w) := by
  obtain ⟨i0, hi, hz0, hz1, hz2⟩ := info_parts info_Helper
  obtain ⟨i1, hi1, hy0, hy1, hy2⟩ := info_parts info_Task
  have H := Lib.hid h
  have hbw := h.lt
  have S1 : Hid (HTS B b n c k A zs w w.heap.size hNames (some ⟨w.heap.size + 1, 0, none⟩) 0 [] none 0 [] ((w.alloc (.cells #[.string ⟨#[104, 97]⟩, .string ⟨#[104, 98]⟩, .string ⟨#[104, 99]⟩, .string ⟨#[104, 100]⟩, .string ⟨#[104, 101]⟩, .string ⟨#[104, 102]⟩] 9)).alloc (.cells #[] 35))) := Lib.hid (by
    have s0 : HTS B b n c k A zs w w.heap.size hNames none 0 [] none 0 [] (w.alloc (.cells (hNames.map Value.string).toArray 9)) :=
      ⟨Own.nil _ _ _ _, Own.nil _ _ _ _, (fun a a' e => by cases e), (DS.mk0 h.src h.bz h.hB h.hn).allocD _, (fun x hx => by cases hx), (fun x hx => by cases hx), hc_new w _ _, (fun a e => by cases e), (fun a e => by cases e), hbw, Nat.le_refl _⟩
    have := s0.new5
    rw [show (w.alloc (.cells (hNames.map Value.string).toArray 9)).heap.size = w.heap.size + 1 by simp] at this
    exact this)
  clear h
  go_enter Try.func16, Try.ntmps16
  go_wp2_with fail
  generalize (w.alloc (.cells #[.string ⟨#[104, 97]⟩, .string ⟨#[104, 98]⟩, .string ⟨#[104, 99]⟩, .string ⟨#[104, 100]⟩, .string ⟨#[104, 101]⟩, .string ⟨#[104, 102]⟩] 9)).alloc (.cells #[] 35) = w1 at *
  go_loopg [5, 6] 6 (fun gk vo vi wr => ∃ (i : Nat) (A5 : Option Addr) (c5 kk : Nat) (l : List HelperR), i ≤ 6 ∧ gk + i = 6 ∧ vi = .int .i64 (i : Int) ∧ vo = .slice A5 l.length c5 ∧ l.length ≤ i ∧ kk ≤ k + 10 * i ∧ HTS B b n c kk A zs w w.heap.size hNames A5 c5 l none 0 [] wr)
  case atStart => exact ⟨0, _, 0, k, [], by omega, by omega, rfl, rfl, by simp, by omega, S1.out⟩
  case round =>
    clear S1
    obtain ⟨i, A5, c5, kk, l, hil, hgk, rfl, rfl, hll, hkk, hs⟩ := hrel
    have Hgk := Lib.hid hgk
    have S := Lib.hid hs
    clear hgk hs
    have hi0' : (0 : Int) ≤ (i : Int) := by omega
    have qi : IntKind.i64.wrap ((i : Int) + 1) = (i : Int) + 1 := IntWalk.i64_in _ (by omega)
    by_cases hlt : i < 6
    · have hi1' : (i : Int) < 6 := by omega
      have hle := names_le hNames_le (i := i) (by simpa [hNames] using hlt)
      go_wp2_with fail
      refine (S.out.d.one (by omega) 4).mono ?_
      rintro e w3 ⟨x, rfl, d3, t3⟩
      have S3 := Lib.hid (S.out.call d3 t3)
      have hnm := S3.out.name (i := i) (by simpa [hNames] using hlt)
      clear d3 t3 S
      generalize hNames.getD i ⟨#[]⟩ = nm at *
      cases x with
      | true =>
        go_wp2_with fail
        have hgk := Hgk.out
        go_roundg (gk - 1)
        case rel => exact ⟨i + 1, A5, c5, kk + 2, l, by omega, by omega, by go_num, rfl, by omega, by omega, S3.out⟩
        case measure => omega
      | false =>
        go_wp2_with fail
        refine (l24DrawHelper_any S3.out.d (by omega)).mono ?_
        rintro e w4 ⟨r1, r2, rfl, d4, t4⟩
        have S4 := Lib.hid (S3.out.call d4 t4)
        have hsz4 : w.heap.size ≤ (w4.alloc (.cells #[.string nm, .int .i64 r1, .int .i64 r2] 35)).heap.size := by have := d4.sz; simp; omega
        clear d4 t4 S3 hnm
        go_wp2_with (at_builtin; refine wpList_app rfl _ _ 24 rfl 35 i0 _ 3 32 Try.underlying24 hi hz0 hz1 hz2 rfl (by omega) (by omega) w.heap.size _ _ _ _ rfl (S4.out.o5.alloc _) ⟨w4.heap.size, 0, none⟩ 1 1 (⟨nm, r1, r2⟩ : HelperR).cells rfl rfl (cells_new _ _ _) (helper_one _) (by omega) hsz4 ?_)
        intro A3 c3 w5 ho3 hgA hbA hat
        have S5 := Lib.hid (S4.out.app5 (X := ⟨nm, r1, r2⟩) ho3 hgA hbA hat hle)
        clear ho3 hgA hbA hat S4
        go_wp2_with fail
        have hgk := Hgk.out
        go_roundg (gk - 1)
        case rel => exact ⟨i + 1, A3, c3, _, l ++ [⟨nm, r1, r2⟩], by omega, by omega, by go_num, by rw [List.length_append]; rfl, by simp; omega, by omega, S5.out⟩
        case measure => omega
    · have hi1' : ¬ (i : Int) < 6 := by omega
      have S2 : Hid (HTS B b n c kk A zs w wr.heap.size tNames A5 c5 l (some ⟨wr.heap.size + 1, 0, none⟩) 0 [] ((wr.alloc (.cells #[.string ⟨#[116, 97]⟩, .string ⟨#[116, 98]⟩, .string ⟨#[116, 99]⟩, .string ⟨#[116, 100]⟩] 9)).alloc (.cells #[] 67))) := Lib.hid (by
        have := (S.out.names tNames 9).new8
        rw [show (wr.alloc (.cells (tNames.map Value.string).toArray 9)).heap.size = wr.heap.size + 1 by simp] at this
        exact this)
      clear S
      go_wp2_with fail
      generalize (wr.alloc (.cells #[.string ⟨#[116, 97]⟩, .string ⟨#[116, 98]⟩, .string ⟨#[116, 99]⟩, .string ⟨#[116, 100]⟩] 9)).alloc (.cells #[] 67) = w2 at *
      generalize wr.heap.size = nb at *
      go_loopg [8, 9] 4 (fun gk vo vi wr => ∃ (i : Nat) (A8 : Option Addr) (c8 kk : Nat) (tl : List TaskR), i ≤ 4 ∧ gk + i = 4 ∧ vi = .int .i64 (i : Int) ∧ vo = .slice A8 tl.length c8 ∧ tl.length ≤ i ∧ kk ≤ k + 60 + 10 * i ∧ HTS B b n c kk A zs w nb tNames A5 c5 l A8 c8 tl wr)
      case atStart => exact ⟨0, _, 0, kk, [], by omega, by omega, rfl, rfl, by simp, by omega, S2.out⟩
      case round =>
        clear S2
        obtain ⟨j, A8, c8, kj, tl, hjl, hgk2, rfl, rfl, htl, hkj, hs⟩ := hrel
        have Hgk2 := Lib.hid hgk2
        have S := Lib.hid hs
        clear hgk2 hs
        have hj0' : (0 : Int) ≤ (j : Int) := by omega
        have qj : IntKind.i64.wrap ((j : Int) + 1) = (j : Int) + 1 := IntWalk.i64_in _ (by omega)
        by_cases hltj : j < 4
        · have hj1' : (j : Int) < 4 := by omega
          have hle := names_le tNames_le (i := j) (by simpa [tNames] using hltj)
          go_wp2_with fail
          refine (S.out.d.one (by omega) 3).mono ?_
          rintro e w3 ⟨x, rfl, d3, t3⟩
          have S3 := Lib.hid (S.out.call d3 t3)
          have hnm := S3.out.name (i := j) (by simpa [tNames] using hltj)
          clear d3 t3 S
          generalize tNames.getD j ⟨#[]⟩ = nm at *
          cases x with
          | true =>
            go_wp2_with fail
            have hgk2 := Hgk2.out
            go_roundg (gk - 1)
            case rel => exact ⟨j + 1, A8, c8, kj + 2, tl, by omega, by omega, by go_num, rfl, by omega, by omega, S3.out⟩
            case measure => omega
          | false =>
            go_wp2_with fail
            refine (l24DrawTask_any S3.out.d (by omega)).mono ?_
            rintro e w4 ⟨r1, r2, rfl, d4, t4⟩
            have S4 := Lib.hid (S3.out.call d4 t4)
            have hsz4 : w.heap.size ≤ (w4.alloc (.cells #[.string nm, .int .i64 r1, .int .i64 r2] 67)).heap.size := by have := d4.sz; simp; omega
            clear d4 t4 S3 hnm
            go_wp2_with (at_builtin; refine wpList_app rfl _ _ 25 rfl 67 i1 _ 3 32 Try.underlying25 hi1 hy0 hy1 hy2 rfl (by omega) (by omega) w.heap.size _ _ _ _ rfl (S4.out.o8.alloc _) ⟨w4.heap.size, 0, none⟩ 1 1 (⟨nm, r1, r2⟩ : TaskR).cells rfl rfl (cells_new _ _ _) (task_one _) (by omega) hsz4 ?_)
            intro A3 c3 w5 ho3 hgA hbA hat
            have S5 := Lib.hid (S4.out.app8 (X := ⟨nm, r1, r2⟩) ho3 hgA hbA hat hle)
            clear ho3 hgA hbA hat S4
            go_wp2_with fail
            have hgk2 := Hgk2.out
            go_roundg (gk - 1)
            case rel => exact ⟨j + 1, A3, c3, _, tl ++ [⟨nm, r1, r2⟩], by omega, by omega, by go_num, by rw [List.length_append]; rfl, by simp; omega, by omega, S5.out⟩
            case measure => omega
        · have hj1' : ¬ (j : Int) < 4 := by omega
          clear hltj hlt
          go_wp2_with fail
          refine (S.out.d.pick (by omega) 24).mono ?_
          rintro e w3 ⟨x, rfl, _, _, _, d3, t3⟩
          have S3 := Lib.hid (S.out.call d3 t3)
          clear d3 t3 S
          go_upto_block 4 with fail
          go_cut [5, 8] (fun v5 v8 wx => ∃ (A5 : Option Addr) (c5 : Nat) (l : List HelperR) (A8 : Option Addr) (c8 : Nat) (tl : List TaskR), v5 = .slice A5 l.length c5 ∧ v8 = .slice A8 tl.length c8 ∧ l.length ≤ 20 ∧ tl.length ≤ 20 ∧ HTS B b n c (k + 390) A zs w nb tNames A5 c5 l A8 c8 tl wx)
          case first => as_aux_lemma =>
            by_cases hx0 : x = 0
            · subst hx0
              go_wp2_with fail
              refine (S3.out.d.text3 (by omega) ⟨#[]⟩ ⟨#[97, 97]⟩ ⟨#[122, 122]⟩ 9).mono ?_
              rintro e w4 ⟨nm, rfl, hnm, d4, t4⟩
              have hle : nm.size ≤ 1048576 := by
                simp only [List.mem_cons, List.not_mem_nil, or_false] at hnm
                rcases hnm with rfl | rfl | rfl <;> decide
              have S4 := Lib.hid (S3.out.call d4 t4)
              clear d4 t4 S3 hnm
              go_wp2_with fail
              refine (S4.out.d.among4 (by omega) (-1) 0 7 8 2).mono ?_
              rintro e w5 ⟨r1, rfl, -, d5, t5⟩
              have S5 := Lib.hid (S4.out.call d5 t5)
              clear d5 t5 S4
              go_wp2_with fail
              refine (S5.out.d.among4 (by omega) (-1) 0 1000 1001 2).mono ?_
              rintro e w6 ⟨r2, rfl, -, d6, t6⟩
              have S6 := Lib.hid (S5.out.call d6 t6)
              have hsz6 : w.heap.size ≤ (w6.alloc (.cells #[.string nm, .int .i64 r1, .int .i64 r2] 35)).heap.size := by have := d6.sz; simp; omega
              clear d6 t6 S5
              go_wp2_with (at_builtin; refine wpList_app rfl _ _ 24 rfl 35 i0 _ 3 32 Try.underlying24 hi hz0 hz1 hz2 rfl (by omega) (by omega) w.heap.size _ _ _ _ rfl (S6.out.o5.alloc _) ⟨w6.heap.size, 0, none⟩ 1 1 (⟨nm, r1, r2⟩ : HelperR).cells rfl rfl (cells_new _ _ _) (helper_one _) (by omega) hsz6 ?_)
              intro A3 c3 w7 ho3 hgA hbA hat
              have S7 := Lib.hid ((S6.out.app5 (X := ⟨nm, r1, r2⟩) ho3 hgA hbA hat hle).more (show _ ≤ k + 390 by omega))
              clear ho3 hgA hbA hat S6
              go_wp2_with fail
              go_meet
              exact ⟨A3, c3, l ++ [⟨nm, r1, r2⟩], A8, c8, tl, by rw [List.length_append]; rfl, rfl, by simp; omega, by omega, S7.out⟩
            have b0 : (x == 0) = false := by rw [beq_eq_false_iff_ne]; exact hx0
            by_cases hx1 : x = 1
            · subst hx1
              go_wp2_with fail
              refine (S3.out.d.text3 (by omega) ⟨#[]⟩ ⟨#[97, 97]⟩ ⟨#[122, 122]⟩ 9).mono ?_
              rintro e w4 ⟨nm, rfl, hnm, d4, t4⟩
              have hle : nm.size ≤ 1048576 := by
                simp only [List.mem_cons, List.not_mem_nil, or_false] at hnm
                rcases hnm with rfl | rfl | rfl <;> decide
              have S4 := Lib.hid (S3.out.call d4 t4)
              clear d4 t4 S3 hnm
              go_wp2_with fail
              refine (S4.out.d.among4 (by omega) (-1) 0 7 8 2).mono ?_
              rintro e w5 ⟨r1, rfl, -, d5, t5⟩
              have S5 := Lib.hid (S4.out.call d5 t5)
              clear d5 t5 S4
              go_wp2_with fail
              refine (S5.out.d.among4 (by omega) (-1) 0 1000 1001 2).mono ?_
              rintro e w6 ⟨r2, rfl, -, d6, t6⟩
              have S6 := Lib.hid (S5.out.call d6 t6)
              have hsz6 : w.heap.size ≤ (w6.alloc (.cells #[.string nm, .int .i64 r1, .int .i64 r2] 67)).heap.size := by have := d6.sz; simp; omega
              clear d6 t6 S5
              go_wp2_with (at_builtin; refine wpList_app rfl _ _ 25 rfl 67 i1 _ 3 32 Try.underlying25 hi1 hy0 hy1 hy2 rfl (by omega) (by omega) w.heap.size _ _ _ _ rfl (S6.out.o8.alloc _) ⟨w6.heap.size, 0, none⟩ 1 1 (⟨nm, r1, r2⟩ : TaskR).cells rfl rfl (cells_new _ _ _) (task_one _) (by omega) hsz6 ?_)
              intro A3 c3 w7 ho3 hgA hbA hat
              have S7 := Lib.hid ((S6.out.app8 (X := ⟨nm, r1, r2⟩) ho3 hgA hbA hat hle).more (show _ ≤ k + 390 by omega))
              clear ho3 hgA hbA hat S6
              go_wp2_with fail
              go_meet
              exact ⟨A5, c5, l, A3, c3, tl ++ [⟨nm, r1, r2⟩], rfl, by rw [List.length_append]; rfl, by omega, by simp; omega, S7.out⟩
            have b1 : (x == 1) = false := by rw [beq_eq_false_iff_ne]; exact hx1
            by_cases hx2 : x = 2
            · subst hx2
              go_wp2_with fail
              refine (S3.out.d.among2 (by omega) 10 11 2).mono ?_
              rintro e w4 ⟨y, rfl, hy, d4, t4⟩
              have hy2 : 0 ≤ y ∧ y ≤ 11 := by
                simp only [List.mem_cons, List.not_mem_nil, or_false] at hy
                omega
              obtain ⟨M, rfl⟩ := Int.eq_ofNat_of_zero_le hy2.1
              have hM : M ≤ 11 := by omega
              have S5 := Lib.hid (S3.out.call d4 t4).new5
              clear d4 t4 S3 hy hy2
              go_wp2_with fail
              generalize w4.alloc (.cells #[] 35) = w5 at *
              go_loopg [5, 11] M (fun gk vo vi wr => ∃ (i : Nat) (A5 : Option Addr) (c5 kk : Nat) (l : List HelperR), i ≤ M ∧ gk + i = M ∧ vi = .int .i64 (i : Int) ∧ vo = .slice A5 l.length c5 ∧ l.length ≤ i ∧ kk ≤ k + 120 + 10 * i ∧ HTS B b n c kk A zs w nb tNames A5 c5 l A8 c8 tl wr)
              case atStart => exact ⟨0, _, 0, _, [], by omega, by omega, rfl, rfl, by simp, by omega, S5.out⟩
              case round =>
                clear S5
                obtain ⟨i, A5, c5, kk, l, hil, hgk3, rfl, rfl, hll, hkk, hs⟩ := hrel
                have Hgk3 := Lib.hid hgk3
                have S := Lib.hid hs
                clear hgk3 hs
                have hi0' : (0 : Int) ≤ (i : Int) := by omega
                have qi : IntKind.i64.wrap ((i : Int) + 1) = (i : Int) + 1 := IntWalk.i64_in _ (by omega)
                by_cases hlt : i < M
                · have hi1' : (i : Int) < (M : Int) := by omega
                  have qa : IntKind.i64.wrap (97 + (i : Int)) = 97 + (i : Int) := IntWalk.i64_in _ (by omega)
                  have qb : IntKind.u8.wrap (97 + (i : Int)) = 97 + (i : Int) := by rw [IntKind.wrap_u8]; omega
                  have hcv : (convert 22 9 (.slice (some ⟨wr.heap.size, 0, none⟩) 1 1)).run Try.prog (wr.alloc (.cells #[.int .u8 (97 + (i : Int))] 5)) = .ok (.string ⟨#[UInt8.ofNat (97 + i)]⟩) (wr.alloc (.cells #[.int .u8 (97 + (i : Int))] 5)) := by
                    have e : u8s [UInt8.ofNat (97 + i)] = [.int .u8 (97 + (i : Int))] := by
                      have : ((UInt8.ofNat (97 + i)).toNat : Int) = 97 + (i : Int) := by rw [UInt8.toNat_ofNat']; omega
                      unfold u8s
                      rw [List.map_cons, this]; rfl
                    refine own_string (B := wr.heap.size) (l := [UInt8.ofNat (97 + i)]) ?_
                    rw [e]
                    exact own_one wr wr.heap.size 5 (.int .u8 (97 + (i : Int))) (Nat.le_refl _)
                  have SA := Lib.hid (S.out.alloc0 (.cells #[.int .u8 (97 + (i : Int))] 5))
                  have hle : ((⟨#[110]⟩ : ByteArray) ++ (⟨#[97 + UInt8.ofNat i]⟩ : ByteArray)).size ≤ 1048576 := by
                    rw [ByteArray.size_append]
                    have e1 : (⟨#[110]⟩ : ByteArray).size = 1 := rfl
                    have e2 : (⟨#[97 + UInt8.ofNat i]⟩ : ByteArray).size = 1 := rfl
                    omega
                  clear qa qb
                  go_wp2_with fail
                  clear hcv
                  refine (l24DrawHelper_any SA.out.d (by omega)).mono ?_
                  rintro e w6 ⟨r1, r2, rfl, d6, t6⟩
                  have S6 := Lib.hid (SA.out.call d6 t6)
                  have hd6 := d6.sz
                  clear d6 t6 SA S
                  generalize hnm : (_ : ByteArray) ++ (_ : ByteArray) = nm at *
                  have hsz6 : w.heap.size ≤ (w6.alloc (.cells #[.string nm, .int .i64 r1, .int .i64 r2] 35)).heap.size := by simp; omega
                  clear hnm hd6
                  go_wp2_with (at_builtin; refine wpList_app rfl _ _ 24 rfl 35 i0 _ 3 32 Try.underlying24 hi hz0 hz1 hz2 rfl (by omega) (by omega) w.heap.size _ _ _ _ rfl (S6.out.o5.alloc _) ⟨w6.heap.size, 0, none⟩ 1 1 (⟨nm, r1, r2⟩ : HelperR).cells rfl rfl (cells_new _ _ _) (helper_one _) (by omega) hsz6 ?_)
                  intro A3 c3 w7 ho3 hgA hbA hat
                  have S7 := Lib.hid (S6.out.app5 (X := ⟨nm, r1, r2⟩) ho3 hgA hbA hat hle)
                  clear ho3 hgA hbA hat S6
                  go_wp2_with fail
                  have hgk3 := Hgk3.out
                  go_roundg (gk - 1)
                  case rel => exact ⟨i + 1, A3, c3, _, l ++ [⟨nm, r1, r2⟩], by omega, by omega, by go_num, by rw [List.length_append]; rfl, by simp; omega, by omega, S7.out⟩
                  case measure => omega
                · have hi1' : ¬ (i : Int) < (M : Int) := by omega
                  go_wp2_with fail
                  go_meet
                  exact ⟨A5, c5, l, A8, c8, tl, rfl, rfl, by omega, by omega, S.out.more (by omega)⟩
            have b2 : (x == 2) = false := by rw [beq_eq_false_iff_ne]; exact hx2
            by_cases hx3 : x = 3
            · subst hx3
              go_wp2_with fail
              refine (S3.out.d.among2 (by omega) 8 9 2).mono ?_
              rintro e w4 ⟨y, rfl, hy, d4, t4⟩
              have hy2 : 0 ≤ y ∧ y ≤ 9 := by
                simp only [List.mem_cons, List.not_mem_nil, or_false] at hy
                omega
              obtain ⟨M, rfl⟩ := Int.eq_ofNat_of_zero_le hy2.1
              have hM : M ≤ 9 := by omega
              have S5 := Lib.hid (S3.out.call d4 t4).new8
              clear d4 t4 S3 hy hy2
              go_wp2_with fail
              generalize w4.alloc (.cells #[] 67) = w5 at *
              go_loopg [8, 13] M (fun gk vo vi wr => ∃ (i : Nat) (A8 : Option Addr) (c8 kk : Nat) (tl : List TaskR), i ≤ M ∧ gk + i = M ∧ vi = .int .i64 (i : Int) ∧ vo = .slice A8 tl.length c8 ∧ tl.length ≤ i ∧ kk ≤ k + 120 + 10 * i ∧ HTS B b n c kk A zs w nb tNames A5 c5 l A8 c8 tl wr)
              case atStart => exact ⟨0, _, 0, _, [], by omega, by omega, rfl, rfl, by simp, by omega, S5.out⟩
              case round =>
                clear S5
                obtain ⟨i, A8, c8, kk, tl, hil, hgk3, rfl, rfl, htl, hkk, hs⟩ := hrel
                have Hgk3 := Lib.hid hgk3
                have S := Lib.hid hs
                clear hgk3 hs
                have hi0' : (0 : Int) ≤ (i : Int) := by omega
                have qi : IntKind.i64.wrap ((i : Int) + 1) = (i : Int) + 1 := IntWalk.i64_in _ (by omega)
                by_cases hlt : i < M
                · have hi1' : (i : Int) < (M : Int) := by omega
                  go_wp2_with fail
                  refine (l01Dec_nat (K := i) (by omega)).mono ?_
                  rintro e w5 ⟨rfl, b5⟩
                  have SA := Lib.hid (S.out.bel b5)
                  have hle : ((⟨#[110]⟩ : ByteArray) ++ decA i).size ≤ 1048576 := by
                    rw [ByteArray.size_append]
                    have e1 : (⟨#[110]⟩ : ByteArray).size = 1 := rfl
                    have e2 := decA_size i (by omega)
                    omega
                  have hdz := decA_size i (by omega)
                  clear b5
                  generalize decA i = de at *
                  have hz : ¬ 9223372036854775807 < 1 + de.size := by omega
                  go_wp2_with fail
                  refine (l24DrawTask_any SA.out.d (by omega)).mono ?_
                  rintro e w6 ⟨r1, r2, rfl, d6, t6⟩
                  have S6 := Lib.hid (SA.out.call d6 t6)
                  have hd6 := d6.sz
                  clear d6 t6 SA S
                  generalize hnm : (_ : ByteArray) ++ (_ : ByteArray) = nm at *
                  have hsz6 : w.heap.size ≤ (w6.alloc (.cells #[.string nm, .int .i64 r1, .int .i64 r2] 67)).heap.size := by simp; omega
                  clear hnm hd6
                  go_wp2_with (at_builtin; refine wpList_app rfl _ _ 25 rfl 67 i1 _ 3 32 Try.underlying25 hi1 hy0 hy1 hy2 rfl (by omega) (by omega) w.heap.size _ _ _ _ rfl (S6.out.o8.alloc _) ⟨w6.heap.size, 0, none⟩ 1 1 (⟨nm, r1, r2⟩ : TaskR).cells rfl rfl (cells_new _ _ _) (task_one _) (by omega) hsz6 ?_)
                  intro A3 c3 w7 ho3 hgA hbA hat
                  have S7 := Lib.hid (S6.out.app8 (X := ⟨nm, r1, r2⟩) ho3 hgA hbA hat hle)
                  clear ho3 hgA hbA hat S6
                  go_wp2_with fail
                  have hgk3 := Hgk3.out
                  go_roundg (gk - 1)
                  case rel => exact ⟨i + 1, A3, c3, _, tl ++ [⟨nm, r1, r2⟩], by omega, by omega, by go_num, by rw [List.length_append]; rfl, by simp; omega, by omega, S7.out⟩
                  case measure => omega
                · have hi1' : ¬ (i : Int) < (M : Int) := by omega
                  go_wp2_with fail
                  go_meet
                  exact ⟨A5, c5, l, A8, c8, tl, rfl, rfl, by omega, by omega, S.out.more (by omega)⟩
            have b3 : (x == 3) = false := by rw [beq_eq_false_iff_ne]; exact hx3
            go_wp2_with fail
            go_meet
            exact ⟨A5, c5, l, A8, c8, tl, rfl, rfl, by omega, by omega, S3.out.more (by omega)⟩
          case rest =>
            obtain ⟨A5, c5, l, A8, c8, tl, rfl, rfl, hl, ht, hs⟩ := hcut
            have HF := Lib.hid (hs.fin H.out (show k + 390 ≤ k + 400 by omega) hl ht)
            clear hs
            generalize l.length = ln at *
            generalize tl.length = tn at *
            go_wp2_with fail
            exact bodyPost_ret (v := .tuple #[.slice A5 ln c5, .slice A8 tn c8]) (by simp [results, Try.results16, go_sem]) rfl HF.out
end Go.Proofs.Ytcacmiafmanniaa
