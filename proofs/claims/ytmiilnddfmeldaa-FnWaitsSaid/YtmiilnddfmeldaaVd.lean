/- Queues: the waits of all people: contracts of both sides. -/
import Derived.Test.YtmiilnddfmeldaaVc
namespace Go.Proofs.Ytmiilnddfmeldaa
open Go.RowKit
set_option maxRecDepth 100000
set_option linter.unusedVariables false
set_option linter.unusedSimpArgs false

theorem came_zero_mem {zs : List Int} {m : Nat} : ∀ x ∈ cameTo zs m, 1 ≤ x ∧ x ≤ m := by
  induction m with
  | zero => intro x hx; cases hx
  | succ m ih =>
    intro x hx
    rw [cameTo_succ, List.mem_append] at hx
    rcases hx with hx | hx
    · have := ih x hx; omega
    · rw [List.mem_replicate] at hx; omega
theorem leave_mem {came out : List Int} {t : Int} {k : Nat} {C : Int} (hc : ∀ x ∈ came, 1 ≤ x ∧ x ≤ t) (ho : ∀ x ∈ out, 0 ≤ x ∧ x ≤ C) (hC : t ≤ C) (hk : out.length + k ≤ came.length) : ∀ x ∈ leaveTo came out t k, 0 ≤ x ∧ x ≤ C := by
  intro x hx
  unfold leaveTo at hx
  rw [List.mem_append] at hx
  rcases hx with hx | hx
  · exact ho x hx
  · obtain ⟨i, hi, rfl⟩ := List.mem_map.1 hx
    have := List.mem_range.1 hi
    have := hc _ (nth_mem (zs := came) (k := out.length + i) (by omega))
    omega
theorem out_mem {zs : List Int} {E S : Nat} (hz : ∀ z ∈ zs, 0 ≤ z ∧ z ≤ 1000) : ∀ m, ∀ x ∈ outTo zs E S m, 0 ≤ x ∧ x ≤ (m : Int) := by
  intro m
  induction m with
  | zero => intro x hx; cases hx
  | succ m ih =>
    have hoc := out_le_came (E := E) (S := S) hz m
    have hcm := came_mono hz m
    rw [outTo_succ]
    split
    · refine leave_mem (C := ((m + 1 : Nat) : Int)) (t := (m : Int) + 1) (fun x hx => ?_) (fun x hx => ?_) (by omega) (by omega)
      · have := came_zero_mem x hx; omega
      · have := ih x hx; omega
    · intro x hx; have := ih x hx; omega
theorem rep_app {n c : Nat} {A : Option Addr} {w : World} {B e : Nat} {came : List Int} {j : Nat} {x y : Int} (h : Own w B e 1 A n c (came.map (Value.int .i64) ++ (List.replicate j (Value.int .i64 x) ++ [.int .i64 y]))) (hxy : y = x) : Own w B e 1 A n c ((came ++ List.replicate (j + 1) x).map (Value.int .i64)) := by
  subst hxy
  rw [List.map_append, List.map_replicate, List.replicate_succ']
  exact h

/-- r rides have left by minute m; before minute m not all had left. -/
def RidesAt (zs : List Int) (E S m : Nat) (r : Int) : Prop := r = ((m / E : Nat) : Int) ∧ (m = 0 ∨ ((outTo zs E S (m - 1)).length : Int) < zs.sum)
theorem ridesAt0 {zs : List Int} {E S : Nat} : RidesAt zs E S 0 0 := ⟨by simp, .inl rfl⟩
theorem ridesAt_ride {zs : List Int} {E S m : Nat} {r : Int} (h : RidesAt zs E S m r) (hm : (m + 1) % E = 0) (hc : ((outTo zs E S m).length : Int) < zs.sum) : RidesAt zs E S (m + 1) (r + 1) := by
  refine ⟨?_, .inr (by rw [Nat.add_sub_cancel]; exact hc)⟩
  rw [Nat.succ_div, if_pos (Nat.dvd_of_mod_eq_zero hm), h.1]; omega
theorem ridesAt_no {zs : List Int} {E S m : Nat} {r : Int} (h : RidesAt zs E S m r) (hm : ¬ (m + 1) % E = 0) (hc : ((outTo zs E S m).length : Int) < zs.sum) : RidesAt zs E S (m + 1) r := by
  refine ⟨?_, .inr (by rw [Nat.add_sub_cancel]; exact hc)⟩
  rw [Nat.succ_div, if_neg (fun x => hm (Nat.mod_eq_zero_of_dvd x)), h.1]; omega
set_option maxHeartbeats 8000000 in
theorem waits_rides (A : Option Addr) (n c B E S : Nat) (zs : List Int) (w : World) (h : Ints w B A n zs) (hB : B ≤ w.heap.size) (hn : n ≤ 60) (hz : ∀ z ∈ zs, 0 ≤ z ∧ z ≤ 1000) (hE : 1 ≤ E ∧ E ≤ 60) (hS : 1 ≤ S ∧ S ≤ 1000) :
    Calls Try.prog 24 #[.slice A n c, .int .i64 (E : Int), .int .i64 (S : Int)] w fun e w' => ∃ (m : Nat) (A' : Option Addr) (n' c' : Nat) (r : Int), e = .returned (.tuple #[.slice A' n' c', .int .i64 r]) ∧ (n' : Int) = zs.sum ∧ m ≤ 3900060 ∧ n' = (outTo zs E S m).length ∧ RidesAt zs E S m r ∧
      Own w' w.heap.size 2 1 A' n' c' ((outTo zs E S m).map (Value.int .i64)) ∧ Below w.heap.size w w' := by
  have HL := Lib.hid h.len
  have Hz := Lib.hid hz
  have hsum := sum_bds hz
  have hlen := HL.out
  have hT : zs.sum ≤ 60000 := by omega
  have Htot : Hid (∀ z ∈ zs, 0 ≤ z ∧ z ≤ 1000000000) := Lib.hid fun z hz' => by have := hz z hz'; omega
  have Htop := Lib.hid (leftW_top (E := E) (S := S) hz hE.2 (by omega))
  obtain ⟨T, hTe⟩ := Int.eq_ofNat_of_zero_le hsum.1
  have HTe := Lib.hid hTe
  clear hz hlen
  obtain ⟨i0, hi, hz0, hz1, hz2⟩ := info_parts info_int
  go_enter Try.func24, Try.ntmps24
  go_wp2_with fail
  go_loopg [8, 9, 10, 11] (leftW zs E S 0) (fun gk vc vo vr vm wr => ∃ (m : Nat) (A1 : Option Addr) (c1 : Nat) (A2 : Option Addr) (c2 : Nat) (r : Int), gk = leftW zs E S m ∧ Hid (RidesAt zs E S m r) ∧ m + gk ≤ 3900060 ∧ vr = .int .i64 r ∧ 0 ≤ r ∧ r ≤ m ∧ vm = .int .i64 ((m : Int) + 1) ∧ vc = .slice A1 (cameTo zs m).length c1 ∧ vo = .slice A2 (outTo zs E S m).length c2 ∧
    Own wr w.heap.size 2 1 A1 (cameTo zs m).length c1 ((cameTo zs m).map (Value.int .i64)) ∧ Own wr w.heap.size 2 1 A2 (outTo zs E S m).length c2 ((outTo zs E S m).map (Value.int .i64)) ∧ Apart A1 A2 ∧ Apart A2 A1 ∧ Below w.heap.size w wr)
  case atStart => exact ⟨0, none, 0, none, 0, 0, rfl, Lib.hid ridesAt0, by have := Htop.out; omega, rfl, by omega, by omega, rfl, rfl, rfl, Own.nil _ _ _ _, Own.nil _ _ _ _, (fun a _ ha _ => nomatch ha), (fun a _ ha _ => nomatch ha), Below.refl _ _⟩
  case round =>
    obtain ⟨m, A1, c1, A2, c2, r, hgk, HRA, hmm, rfl, hr0, hr1, rfl, rfl, rfl, ho1, ho2, ap12, ap21, hb⟩ := hrel
    have Hgk := Lib.hid hgk
    have Hmm := Lib.hid hmm
    have hbs := hb.size
    have hm2 : m ≤ 3900060 := by omega
    clear hgk hmm
    have hcl := cameTo_len Hz.out m
    have hco := came_le Hz.out m
    have hoc := out_le_came (E := E) (S := S) Hz.out m
    have hoc1 := out_le_came (E := E) (S := S) Hz.out (m + 1)
    have hco1 := came_le Hz.out (m + 1)
    have hcm1 := came_mono Hz.out m
    have Hless := Lib.hid (fun hh => leftW_less (E := E) (S := S) Hz.out hE.1 hE.2 hS.1 (m := m) hh)
    have Hcame := Lib.hid (cameTo_succ zs m)
    have Hout := Lib.hid (outTo_succ zs E S m)
    have Hend : Hid (zs.length ≤ m → ((cameTo zs m).length : Int) = zs.sum) := Lib.hid (fun hh => by rw [hcl, sum_ends hh])
    have Hnth : Hid (n ≤ m → nth zs m = 0) := Lib.hid (fun hh => nth_out (by rw [HL.out]; exact hh))
    have htm : ((m : Int) + 1).tmod (E : Int) = (((m + 1) % E : Nat) : Int) := by
      rw [show (m : Int) + 1 = ((m + 1 : Nat) : Int) by omega]; rfl
    have hte : ((m : Int) + 1) % (E : Int) = (((m + 1) % E : Nat) : Int) := by
      rw [show (m : Int) + 1 = ((m + 1 : Nat) : Int) by omega]; rfl
    have hmE := Nat.mod_lt (m + 1) (show 0 < E by omega)
    have hq1 : IntKind.i64.wrap ((m : Int) + 1 + 1) = (m : Int) + 1 + 1 := IntWalk.i64_in _ (by omega)
    have hq2 : (m : Int) + 1 - 1 = m := by omega
    have hq3 : IntKind.i64.wrap ((m : Int) + 1 - 1) = m := by rw [hq2]; exact IntWalk.i64_in _ (by omega)
    have hq8 : IntKind.i64.wrap (m : Int) = m := IntWalk.i64_in _ (by omega)
    have hq6 : IntKind.i64.wrap (((m : Int) + 1).tmod (E : Int)) = ((m : Int) + 1).tmod (E : Int) := IntWalk.i64_in _ (by omega)
    have hqe : ¬ (E : Int) = 0 := by omega
    have hm0 : (0 : Int) ≤ (m : Int) := by omega
    obtain ⟨gko, hgko⟩ : ∃ gko, gko = gk := ⟨_, rfl⟩
    by_cases hlt : m < n
    · obtain ⟨ad, rfl, hbl, hc⟩ := Ints.at_ (Reads.below h hb hB) hlt
      have hzk := Hz.out _ (nth_mem (zs := zs) (k := m) (by rw [HL.out]; exact hlt))
      generalize hnz : nth zs m = z at *
      have hk1 : (m : Int) < (n : Int) := by omega
      have e7 : decide ((m : Int) + 1 ≤ (n : Int)) = true := by simp; omega
      have e8 : (m : Int) + 1 ≤ (n : Int) := by omega
      by_cases hcond : ((outTo zs E S m).length : Int) < zs.sum
      · have HcondH := Lib.hid hcond
        go_wp2_with (first | (go_at_call 25; refine (size_int_any _ _ _ _ (by omega)).mono ?_; rintro e w' ⟨rfl, rfl⟩) | (go_at_call 27; refine (total_any _ _ _ B zs _ (Reads.below h hb hB) (by omega) Htot.out).mono ?_; rintro e w' ⟨rfl, rfl⟩))
        go_loopg [8, 28] z.toNat (fun gk vc vi wr => ∃ (j : Nat) (A1 : Option Addr) (c1 : Nat), j ≤ z.toNat ∧ gk + j = z.toNat ∧ vi = .int .i64 (j : Int) ∧ vc = .slice A1 ((cameTo zs m).length + j) c1 ∧
          Own wr w.heap.size 2 1 A1 ((cameTo zs m).length + j) c1 ((cameTo zs m ++ List.replicate j ((m : Int) + 1)).map (Value.int .i64)) ∧ Own wr w.heap.size 2 1 A2 (outTo zs E S m).length c2 ((outTo zs E S m).map (Value.int .i64)) ∧ Apart A1 A2 ∧ Apart A2 A1 ∧ Below w.heap.size w wr)
        case atStart => exact ⟨0, A1, c1, Nat.zero_le _, by omega, rfl, rfl, by simpa using ho1, ho2, ap12, ap21, hb⟩
        case round =>
          clear ho1 ho2 ap12 ap21 hb hbs hbl hc
          obtain ⟨j, A1, c1, hj, hgk2, rfl, rfl, ho1, ho2x, ap12x, ap21x, hb⟩ := hrel
          have Hgk2 := Lib.hid hgk2
          have hbs := hb.size
          clear hgk2
          obtain ⟨ad', ea, hbl, hc⟩ := Ints.at_ (Reads.below h hb hB) hlt
          injection ea with ea
          subst ea
          rw [hnz] at hc
          have hj0 : (0 : Int) ≤ (j : Int) := by omega
          have hq9 : IntKind.i64.wrap ((j : Int) + 1) = (j : Int) + 1 := IntWalk.i64_in _ (by omega)
          by_cases hjl : j < z.toNat
          · have hjz : (j : Int) < z := by omega
            go_wp2_with (at_builtin; refine wpList_app rfl _ _ 24 rfl 2 i0 _ 1 8 Try.underlying24 hi hz0 hz1 hz2 rfl (by omega) (by omega) w.heap.size _ _ _ _ rfl (ho1.alloc _) ⟨wr.heap.size, 0, none⟩ 1 1 _ rfl rfl (cell_one_new _ _ _) (by simp [Value.oneCell']) (by omega) (by simp; omega) ?_)
            intro A3 c3 w3 ho3 hgA hbA hat
            have ho4 : Own w3 w.heap.size 2 1 A3 ((cameTo zs m).length + (j + 1)) c3 ((cameTo zs m ++ List.replicate (j + 1) ((m : Int) + 1)).map (Value.int .i64)) := rep_app ho3 rfl
            have ho5 := own_grown (ho2x.alloc _) hgA ap12x
            have hb4 : Below w.heap.size w w3 := (hb.alloc hbs _).trans hbA
            have ap3 : Apart A3 A2 := apart_grown ap12x hat (fun x hx => by have := (ho2x.block_lt _ hx).2.2.2; simp; omega)
            clear ho3 hgA hbA hat ho1 ho2x
            go_wp2_with fail
            have hgk2 := Hgk2.out
            go_roundg (gk - 1)
            case rel => exact ⟨j + 1, A3, c3, by omega, by omega, by go_num, rfl, ho4, ho5, ap3, ap3.symm, hb4⟩
            case measure => omega
          · have hje : j = z.toNat := by omega
            have hjz : ¬ (j : Int) < z := by omega
            have ho1x : Own wr w.heap.size 2 1 A1 (cameTo zs (m + 1)).length c1 ((cameTo zs (m + 1)).map (Value.int .i64)) := by
              rw [Hcame.out, List.length_append, List.length_replicate, ← hje]; exact ho1
            have hlx : (cameTo zs m).length + j = (cameTo zs (m + 1)).length := by rw [Hcame.out, List.length_append, List.length_replicate, ← hje]
            rw [hlx]
            clear ho1 Hcame
            by_cases hride : (m + 1) % E = 0
            · have HRB : Hid (RidesAt zs E S (m + 1) (r + 1)) := Lib.hid (ridesAt_ride HRA.out hride HcondH.out)
              have d1 : (((m : Int) + 1) % (E : Int) == 0) = true := by rw [hte, hride]; rfl
              have d1' : (((m : Int) + 1) % (E : Int) != 0) = false := by rw [hte, hride]; rfl
              have Hk : Hid (outTo zs E S (m + 1) = leaveTo (cameTo zs (m + 1)) (outTo zs E S m) ((m : Int) + 1) (min S ((cameTo zs (m + 1)).length - (outTo zs E S m).length))) := Lib.hid (by rw [Hout.out, if_pos hride])
              have Hcm : Hid (∀ x ∈ cameTo zs (m + 1), 1 ≤ x ∧ x ≤ ((m + 1 : Nat) : Int)) := Lib.hid came_zero_mem
              generalize hCA : cameTo zs (m + 1) = CA at *
              generalize hOU : outTo zs E S m = OU at *
              have hmin1 : min S (CA.length - OU.length) ≤ S := Nat.min_le_left _ _
              have hmin2 : min S (CA.length - OU.length) ≤ CA.length - OU.length := Nat.min_le_right _ _
              have hmin3 : min S (CA.length - OU.length) = S ∨ min S (CA.length - OU.length) = CA.length - OU.length := by omega
              generalize hK : min S (CA.length - OU.length) = K at *
              clear hK
              have hqs : IntKind.i64.wrap ((CA.length : Int) - (OU.length : Int)) = (CA.length : Int) - (OU.length : Int) := IntWalk.i64_in _ (by omega)
              have hqr : IntKind.i64.wrap (r + 1) = r + 1 := IntWalk.i64_in _ (by omega)
              go_wp2_with (first | (go_at_call 25; refine (size_int_any _ _ _ _ (by omega)).mono ?_; rintro e w' ⟨rfl, rfl⟩) | (go_at_call 27; refine (total_any _ _ _ B zs _ (Reads.below h hb hB) (by omega) Htot.out).mono ?_; rintro e w' ⟨rfl, rfl⟩))
              all_goals
                go_loopg [9, 48] (K) (fun gk vo vi wr => ∃ (k : Nat) (A2 : Option Addr) (c2 : Nat), k ≤ K ∧ gk + k = K ∧ vi = .int .i64 (k : Int) ∧ vo = .slice A2 (OU.length + k) c2 ∧
                  Own wr w.heap.size 2 1 A1 CA.length c1 (CA.map (Value.int .i64)) ∧ Own wr w.heap.size 2 1 A2 (OU.length + k) c2 ((leaveTo CA OU ((m : Int) + 1) k).map (Value.int .i64)) ∧ Apart A1 A2 ∧ Apart A2 A1 ∧ Below w.heap.size w wr)
                case atStart => exact ⟨0, A2, c2, Nat.zero_le _, by omega, rfl, rfl, ho1x, by rw [leaveTo_zero]; exact ho2x, ap12x, ap21x, hb⟩
                case round =>
                  clear ho2x ap12x ap21x ho1x hb
                  obtain ⟨k, A2, c2, hk, hgk2, rfl, rfl, ho1, ho2, ap12, ap21, hb⟩ := hrel
                  have Hgk2 := Lib.hid hgk2
                  have hbs := hb.size
                  clear hgk2
                  have hk0 : (0 : Int) ≤ (k : Int) := by omega
                  by_cases hlt : k < K
                  · have hlt2 : OU.length + k < CA.length := by omega
                    have e1 : decide ((k : Int) < (S : Int)) = true := by simp; omega
                    have e2 : decide (((OU.length + k : Nat) : Int) < (CA.length : Int)) = true := by simp; omega
                    have e3a : (k : Int) < (S : Int) := by omega
                    have e3b : (k : Int) < (CA.length : Int) - (OU.length : Int) := by omega
                    obtain ⟨adc, ec, hblc, hcc⟩ := Ints.at_ (own_ints ho1) hlt2
                    subst ec
                    have hcx := Hcm.out _ (nth_mem (zs := CA) (k := OU.length + k) hlt2)
                    have Hlv := Lib.hid (leaveTo_succ CA OU ((m : Int) + 1) k)
                    generalize nth CA (OU.length + k) = x at *
                    have hqx : IntKind.i64.wrap ((m : Int) + 1 - x) = (m : Int) + 1 - x := IntWalk.i64_in _ (by omega)
                    have hj0 : (0 : Int) ≤ ((OU.length + k : Nat) : Int) := by omega
                    have hj1 : ((OU.length + k : Nat) : Int) < (CA.length : Int) := by omega
                    have hj2 : (OU.length : Int) + (k : Int) < (CA.length : Int) := by omega
                    have hq9 : IntKind.i64.wrap ((k : Int) + 1) = (k : Int) + 1 := IntWalk.i64_in _ (by omega)
                    go_wp2_with (at_builtin; refine wpList_app rfl _ _ 24 rfl 2 i0 _ 1 8 Try.underlying24 hi hz0 hz1 hz2 rfl (by omega) (by omega) w.heap.size _ _ _ _ rfl (ho2.alloc _) ⟨wr.heap.size, 0, none⟩ 1 1 _ rfl rfl (cell_one_new _ _ _) (by simp [Value.oneCell']) (by omega) (by simp; omega) ?_)
                    intro A3 c3 w3 ho3 hgA hbA hat
                    have ho4 : Own w3 w.heap.size 2 1 A3 (OU.length + (k + 1)) c3 ((leaveTo CA OU ((m : Int) + 1) (k + 1)).map (Value.int .i64)) := by
                      rw [Hlv.out, List.map_append]; exact ho3
                    have ho5 : Own w3 w.heap.size 2 1 (some adc) CA.length _ (CA.map (Value.int .i64)) := own_grown (ho1.alloc _) hgA ap21
                    have hb4 : Below w.heap.size w w3 := (hb.alloc hbs _).trans hbA
                    have ap3 : Apart A3 (some adc) := apart_grown ap21 hat (fun x hx => by injection hx with hx; subst hx; have := (ho1.block_lt _ rfl).2.2.2; simp; omega)
                    clear ho3 hgA hbA hat ho1 ho2
                    go_wp2_with fail
                    have hgk2 := Hgk2.out
                    go_roundg (gk - 1)
                    case rel => exact ⟨k + 1, A3, c3, by omega, by omega, by go_num, rfl, ho5, ho4, ap3.symm, ap3, hb4⟩
                    case measure => omega
                  · have hke : k = K := by omega
                    first | (have e3 : ¬ (k : Int) < (S : Int) := by omega) | (have e3 : ¬ (k : Int) < (CA.length : Int) - (OU.length : Int) := by omega)
                    rw [hke, ← Hk.out] at ho2
                    have hl2 : (outTo zs E S (m + 1)).length = OU.length + k := by rw [Hk.out, leaveTo_len, hke]
                    have hless := Hless.out (by first | exact .inr (by omega) | exact .inl (by omega) | exact .inl (by rw [HL.out]; omega) | omega)
                    go_wp2_with fail
                    have hgk := Hgk.out
                    have hmm := Hmm.out
                    go_roundg (leftW zs E S (m + 1))
                    case rel => exact ⟨m + 1, A1, c1, A2, c2, r + 1, rfl, HRB, by omega, by go_num, by omega, by omega, by go_num, by rw [hCA], by rw [hl2]; first | rfl | rw [hke], by rw [hCA]; exact ho1, by rw [hl2, hke]; exact ho2, ap12, ap21, hb⟩
                    case measure => omega
            · have HrideH := Lib.hid hride
              have d0 : ¬ ((((m + 1) % E : Nat) : Int) = 0) := fun h => hride (Int.ofNat.inj h)
              have d1 : (((m : Int) + 1) % (E : Int) == 0) = false := by rw [hte]; exact beq_eq_false_iff_ne.2 d0
              have d1' : (((m : Int) + 1) % (E : Int) != 0) = true := by rw [hte]; exact bne_iff_ne.2 d0
              have htb : 0 ≤ ((m : Int) + 1).tmod (E : Int) ∧ ((m : Int) + 1).tmod (E : Int) < 60 := by rw [htm]; omega
              clear d0 htm hte
              have Hk : Hid (outTo zs E S (m + 1) = outTo zs E S m) := Lib.hid (by rw [Hout.out, if_neg hride])
              have hless := Hless.out (by first | exact .inr (by omega) | exact .inl (by omega) | exact .inl (by rw [HL.out]; omega) | omega)
              go_wp2_with fail
              have hgk := Hgk.out
              have hmm := Hmm.out
              go_roundg (leftW zs E S (m + 1))
              case rel => exact ⟨m + 1, A1, c1, A2, c2, r, rfl, Lib.hid (ridesAt_no HRA.out HrideH.out HcondH.out), by omega, rfl, hr0, by omega, by go_num, rfl, by rw [Hk.out], ho1x, by rw [Hk.out]; exact ho2x, ap12x, ap21x, hb⟩
              case measure => omega
      · have hcond' : ¬ ((outTo zs E S m).length : Int) < zs.sum := hcond
        go_wp2_with (first | (go_at_call 25; refine (size_int_any _ _ _ _ (by omega)).mono ?_; rintro e w' ⟨rfl, rfl⟩) | (go_at_call 27; refine (total_any _ _ _ B zs _ (Reads.below h hb hB) (by omega) Htot.out).mono ?_; rintro e w' ⟨rfl, rfl⟩))
        go_ret2
        exact ⟨m, A2, _, c2, r, rfl, by omega, hm2, rfl, HRA.out, ho2, hb⟩
    · have hk1 : ¬ (m : Int) + 1 ≤ (n : Int) := by omega
      have e7 : decide ((m : Int) + 1 ≤ (n : Int)) = false := by simp; omega
      have hnz := Hnth.out (by omega)
      have hce : cameTo zs (m + 1) = cameTo zs m := by rw [Hcame.out, hnz]; simp
      have hcall := Hend.out (by rw [HL.out]; omega)
      have ho2x := ho2
      have ap12x := ap12
      have ap21x := ap21
      have ho1x : Own wr w.heap.size 2 1 A1 (cameTo zs (m + 1)).length c1 ((cameTo zs (m + 1)).map (Value.int .i64)) := by rw [hce]; exact ho1
      rw [← hce]
      clear ho1 ho2 ap12 ap21 Hcame
      by_cases hcond : ((outTo zs E S m).length : Int) < zs.sum
      · have HcondH := Lib.hid hcond
        have e9 : decide (((outTo zs E S m).length : Int) < ((cameTo zs (m + 1)).length : Int)) = true := by rw [hce]; simp; omega
        have Hce := Lib.hid hce
        clear hce
        by_cases hride : (m + 1) % E = 0
        · have HRB : Hid (RidesAt zs E S (m + 1) (r + 1)) := Lib.hid (ridesAt_ride HRA.out hride HcondH.out)
          have d1 : (((m : Int) + 1) % (E : Int) == 0) = true := by rw [hte, hride]; rfl
          have d1' : (((m : Int) + 1) % (E : Int) != 0) = false := by rw [hte, hride]; rfl
          have Hk : Hid (outTo zs E S (m + 1) = leaveTo (cameTo zs (m + 1)) (outTo zs E S m) ((m : Int) + 1) (min S ((cameTo zs (m + 1)).length - (outTo zs E S m).length))) := Lib.hid (by rw [Hout.out, if_pos hride])
          have Hcm : Hid (∀ x ∈ cameTo zs (m + 1), 1 ≤ x ∧ x ≤ ((m + 1 : Nat) : Int)) := Lib.hid came_zero_mem
          generalize hCA : cameTo zs (m + 1) = CA at *
          generalize hOU : outTo zs E S m = OU at *
          have hmin1 : min S (CA.length - OU.length) ≤ S := Nat.min_le_left _ _
          have hmin2 : min S (CA.length - OU.length) ≤ CA.length - OU.length := Nat.min_le_right _ _
          have hmin3 : min S (CA.length - OU.length) = S ∨ min S (CA.length - OU.length) = CA.length - OU.length := by omega
          generalize hK : min S (CA.length - OU.length) = K at *
          clear hK
          have hqs : IntKind.i64.wrap ((CA.length : Int) - (OU.length : Int)) = (CA.length : Int) - (OU.length : Int) := IntWalk.i64_in _ (by omega)
          have hqr : IntKind.i64.wrap (r + 1) = r + 1 := IntWalk.i64_in _ (by omega)
          go_wp2_with (first | (go_at_call 25; refine (size_int_any _ _ _ _ (by omega)).mono ?_; rintro e w' ⟨rfl, rfl⟩) | (go_at_call 27; refine (total_any _ _ _ B zs _ (Reads.below h hb hB) (by omega) Htot.out).mono ?_; rintro e w' ⟨rfl, rfl⟩))
          all_goals
            go_loopg [9, 48] (K) (fun gk vo vi wr => ∃ (k : Nat) (A2 : Option Addr) (c2 : Nat), k ≤ K ∧ gk + k = K ∧ vi = .int .i64 (k : Int) ∧ vo = .slice A2 (OU.length + k) c2 ∧
              Own wr w.heap.size 2 1 A1 CA.length c1 (CA.map (Value.int .i64)) ∧ Own wr w.heap.size 2 1 A2 (OU.length + k) c2 ((leaveTo CA OU ((m : Int) + 1) k).map (Value.int .i64)) ∧ Apart A1 A2 ∧ Apart A2 A1 ∧ Below w.heap.size w wr)
            case atStart => exact ⟨0, A2, c2, Nat.zero_le _, by omega, rfl, rfl, ho1x, by rw [leaveTo_zero]; exact ho2x, ap12x, ap21x, hb⟩
            case round =>
              clear ho2x ap12x ap21x ho1x hb
              obtain ⟨k, A2, c2, hk, hgk2, rfl, rfl, ho1, ho2, ap12, ap21, hb⟩ := hrel
              have Hgk2 := Lib.hid hgk2
              have hbs := hb.size
              clear hgk2
              have hk0 : (0 : Int) ≤ (k : Int) := by omega
              by_cases hlt : k < K
              · have hlt2 : OU.length + k < CA.length := by omega
                have e1 : decide ((k : Int) < (S : Int)) = true := by simp; omega
                have e2 : decide (((OU.length + k : Nat) : Int) < (CA.length : Int)) = true := by simp; omega
                have e3a : (k : Int) < (S : Int) := by omega
                have e3b : (k : Int) < (CA.length : Int) - (OU.length : Int) := by omega
                obtain ⟨adc, ec, hblc, hcc⟩ := Ints.at_ (own_ints ho1) hlt2
                subst ec
                have hcx := Hcm.out _ (nth_mem (zs := CA) (k := OU.length + k) hlt2)
                have Hlv := Lib.hid (leaveTo_succ CA OU ((m : Int) + 1) k)
                generalize nth CA (OU.length + k) = x at *
                have hqx : IntKind.i64.wrap ((m : Int) + 1 - x) = (m : Int) + 1 - x := IntWalk.i64_in _ (by omega)
                have hj0 : (0 : Int) ≤ ((OU.length + k : Nat) : Int) := by omega
                have hj1 : ((OU.length + k : Nat) : Int) < (CA.length : Int) := by omega
                have hj2 : (OU.length : Int) + (k : Int) < (CA.length : Int) := by omega
                have hq9 : IntKind.i64.wrap ((k : Int) + 1) = (k : Int) + 1 := IntWalk.i64_in _ (by omega)
                go_wp2_with (at_builtin; refine wpList_app rfl _ _ 24 rfl 2 i0 _ 1 8 Try.underlying24 hi hz0 hz1 hz2 rfl (by omega) (by omega) w.heap.size _ _ _ _ rfl (ho2.alloc _) ⟨wr.heap.size, 0, none⟩ 1 1 _ rfl rfl (cell_one_new _ _ _) (by simp [Value.oneCell']) (by omega) (by simp; omega) ?_)
                intro A3 c3 w3 ho3 hgA hbA hat
                have ho4 : Own w3 w.heap.size 2 1 A3 (OU.length + (k + 1)) c3 ((leaveTo CA OU ((m : Int) + 1) (k + 1)).map (Value.int .i64)) := by
                  rw [Hlv.out, List.map_append]; exact ho3
                have ho5 : Own w3 w.heap.size 2 1 (some adc) CA.length _ (CA.map (Value.int .i64)) := own_grown (ho1.alloc _) hgA ap21
                have hb4 : Below w.heap.size w w3 := (hb.alloc hbs _).trans hbA
                have ap3 : Apart A3 (some adc) := apart_grown ap21 hat (fun x hx => by injection hx with hx; subst hx; have := (ho1.block_lt _ rfl).2.2.2; simp; omega)
                clear ho3 hgA hbA hat ho1 ho2
                go_wp2_with fail
                have hgk2 := Hgk2.out
                go_roundg (gk - 1)
                case rel => exact ⟨k + 1, A3, c3, by omega, by omega, by go_num, rfl, ho5, ho4, ap3.symm, ap3, hb4⟩
                case measure => omega
              · have hke : k = K := by omega
                first | (have e3 : ¬ (k : Int) < (S : Int) := by omega) | (have e3 : ¬ (k : Int) < (CA.length : Int) - (OU.length : Int) := by omega)
                rw [hke, ← Hk.out] at ho2
                have hl2 : (outTo zs E S (m + 1)).length = OU.length + k := by rw [Hk.out, leaveTo_len, hke]
                have hless := Hless.out (by first | exact .inr (by omega) | exact .inl (by omega) | exact .inl (by rw [HL.out]; omega) | omega)
                go_wp2_with fail
                have hgk := Hgk.out
                have hmm := Hmm.out
                go_roundg (leftW zs E S (m + 1))
                case rel => exact ⟨m + 1, A1, c1, A2, c2, r + 1, rfl, HRB, by omega, by go_num, by omega, by omega, by go_num, by rw [hCA], by rw [hl2]; first | rfl | rw [hke], by rw [hCA]; exact ho1, by rw [hl2, hke]; exact ho2, ap12, ap21, hb⟩
                case measure => omega
        · have HrideH := Lib.hid hride
          have d0 : ¬ ((((m + 1) % E : Nat) : Int) = 0) := fun h => hride (Int.ofNat.inj h)
          have d1 : (((m : Int) + 1) % (E : Int) == 0) = false := by rw [hte]; exact beq_eq_false_iff_ne.2 d0
          have d1' : (((m : Int) + 1) % (E : Int) != 0) = true := by rw [hte]; exact bne_iff_ne.2 d0
          have htb : 0 ≤ ((m : Int) + 1).tmod (E : Int) ∧ ((m : Int) + 1).tmod (E : Int) < 60 := by rw [htm]; omega
          clear d0 htm hte
          have Hk : Hid (outTo zs E S (m + 1) = outTo zs E S m) := Lib.hid (by rw [Hout.out, if_neg hride])
          have hless := Hless.out (by first | exact .inr (by omega) | exact .inl (by omega) | exact .inl (by rw [HL.out]; omega) | omega)
          go_wp2_with (first | (go_at_call 25; refine (size_int_any _ _ _ _ (by omega)).mono ?_; rintro e w' ⟨rfl, rfl⟩) | (go_at_call 27; refine (total_any _ _ _ B zs _ (Reads.below h hb hB) (by omega) Htot.out).mono ?_; rintro e w' ⟨rfl, rfl⟩))
          have hgk := Hgk.out
          have hmm := Hmm.out
          go_roundg (leftW zs E S (m + 1))
          case rel => exact ⟨m + 1, A1, c1, A2, c2, r, rfl, Lib.hid (ridesAt_no HRA.out HrideH.out HcondH.out), by omega, rfl, hr0, by omega, by go_num, rfl, by rw [Hk.out], ho1x, by rw [Hk.out]; exact ho2x, ap12x, ap21x, hb⟩
          case measure => omega
      · have e9 : decide (((outTo zs E S m).length : Int) < ((cameTo zs (m + 1)).length : Int)) = false := by rw [hce]; simp; omega
        have Hce := Lib.hid hce
        clear hce
        have ho2 := ho2x
        go_wp2_with (first | (go_at_call 25; refine (size_int_any _ _ _ _ (by omega)).mono ?_; rintro e w' ⟨rfl, rfl⟩) | (go_at_call 27; refine (total_any _ _ _ B zs _ (Reads.below h hb hB) (by omega) Htot.out).mono ?_; rintro e w' ⟨rfl, rfl⟩))
        go_ret2
        exact ⟨m, A2, _, c2, r, rfl, by omega, hm2, rfl, HRA.out, ho2, hb⟩

theorem waits_any (A : Option Addr) (n c B E S : Nat) (zs : List Int) (w : World) (h : Ints w B A n zs) (hB : B ≤ w.heap.size) (hn : n ≤ 60) (hz : ∀ z ∈ zs, 0 ≤ z ∧ z ≤ 1000) (hE : 1 ≤ E ∧ E ≤ 60) (hS : 1 ≤ S ∧ S ≤ 1000) :
    Calls Try.prog 24 #[.slice A n c, .int .i64 (E : Int), .int .i64 (S : Int)] w fun e w' => ∃ (m : Nat) (A' : Option Addr) (n' c' : Nat) (r : Int), e = .returned (.tuple #[.slice A' n' c', .int .i64 r]) ∧ (n' : Int) = zs.sum ∧ m ≤ 3900060 ∧ n' = (outTo zs E S m).length ∧
      Own w' w.heap.size 2 1 A' n' c' ((outTo zs E S m).map (Value.int .i64)) ∧ Below w.heap.size w w' :=
  (waits_rides A n c B E S zs w h hB hn hz hE hS).mono fun _ _ ⟨m, A', n', c', r, q1, q2, q3, q4, _, q5, q6⟩ => ⟨m, A', n', c', r, q1, q2, q3, q4, q5, q6⟩

set_option maxHeartbeats 8000000 in
theorem l20Waits_any (A : Option Addr) (n c B E S : Nat) (zs : List Int) (w : World) (h : Ints w B A n zs) (hB : B ≤ w.heap.size) (hn : n ≤ 60) (hz : ∀ z ∈ zs, 0 ≤ z ∧ z ≤ 1000) (hE : 1 ≤ E ∧ E ≤ 60) (hS : 1 ≤ S ∧ S ≤ 1000) :
    Calls Try.prog 31 #[.slice A n c, .int .i64 (E : Int), .int .i64 (S : Int)] w fun e w' => ∃ (m : Nat) (A' : Option Addr) (n' c' : Nat), e = .returned (.slice A' n' c') ∧ (n' : Int) = zs.sum ∧ m ≤ 3900060 ∧ n' = (outTo zs E S m).length ∧
      Own w' w.heap.size 2 1 A' n' c' ((outTo zs E S m).map (Value.int .i64)) ∧ Below w.heap.size w w' := by
  have HL := Lib.hid h.len
  have Hz := Lib.hid hz
  have hsum := sum_bds hz
  have hlen := HL.out
  have hT : zs.sum ≤ 60000 := by omega
  have Htot : Hid (∀ z ∈ zs, 0 ≤ z ∧ z ≤ 1000000000) := Lib.hid fun z hz' => by have := hz z hz'; omega
  have Htop := Lib.hid (leftW_top (E := E) (S := S) hz hE.2 (by omega))
  obtain ⟨T, hTe⟩ := Int.eq_ofNat_of_zero_le hsum.1
  have HTe := Lib.hid hTe
  clear hz hlen
  obtain ⟨i0, hi, hz0, hz1, hz2⟩ := info_parts info_int
  go_enter Try.func31, Try.ntmps31
  go_wp2_with fail
  go_loopg [7, 8, 9] (leftW zs E S 0) (fun gk vo vc vm wr => ∃ (m : Nat) (A1 : Option Addr) (c1 : Nat) (A2 : Option Addr) (c2 : Nat), gk = leftW zs E S m ∧ m + gk ≤ 3900060 ∧ vm = .int .i64 ((m : Int) + 1) ∧ vc = .slice A1 (cameTo zs m).length c1 ∧ vo = .slice A2 (outTo zs E S m).length c2 ∧
    Own wr w.heap.size 2 1 A1 (cameTo zs m).length c1 ((cameTo zs m).map (Value.int .i64)) ∧ Own wr w.heap.size 2 1 A2 (outTo zs E S m).length c2 ((outTo zs E S m).map (Value.int .i64)) ∧ Apart A1 A2 ∧ Apart A2 A1 ∧ Below w.heap.size w wr)
  case atStart =>
    have oa := Own.empty w w.heap.size 2 1 (Nat.le_refl _)
    have ob := Own.empty (w.alloc (.cells #[] 2)) (w.alloc (.cells #[] 2)).heap.size 2 1 (Nat.le_refl _)
    have ap := apart_of oa ob (Nat.le_refl _)
    have hsz : (w.alloc (.cells #[] 2)).heap.size = w.heap.size + 1 := by simp
    rw [hsz] at ob ap
    exact ⟨0, _, 0, _, 0, rfl, by have := Htop.out; omega, rfl, rfl, rfl, ob.mono (Nat.le_succ _), oa.alloc _, ap.symm, ap, ((Below.refl _ _).alloc (Nat.le_refl _) _).alloc (by simp) _⟩
  case round =>
    obtain ⟨m, A1, c1, A2, c2, hgk, hmm, rfl, rfl, rfl, ho1, ho2, ap12, ap21, hb⟩ := hrel
    have Hgk := Lib.hid hgk
    have Hmm := Lib.hid hmm
    have hbs := hb.size
    have hm2 : m ≤ 3900060 := by omega
    clear hgk hmm
    have hcl := cameTo_len Hz.out m
    have hco := came_le Hz.out m
    have hoc := out_le_came (E := E) (S := S) Hz.out m
    have hoc1 := out_le_came (E := E) (S := S) Hz.out (m + 1)
    have hco1 := came_le Hz.out (m + 1)
    have hcm1 := came_mono Hz.out m
    have Hless := Lib.hid (fun hh => leftW_less (E := E) (S := S) Hz.out hE.1 hE.2 hS.1 (m := m) hh)
    have Hcame := Lib.hid (cameTo_succ zs m)
    have Hout := Lib.hid (outTo_succ zs E S m)
    have Hend : Hid (zs.length ≤ m → ((cameTo zs m).length : Int) = zs.sum) := Lib.hid (fun hh => by rw [hcl, sum_ends hh])
    have Hnth : Hid (n ≤ m → nth zs m = 0) := Lib.hid (fun hh => nth_out (by rw [HL.out]; exact hh))
    have htm : ((m : Int) + 1).tmod (E : Int) = (((m + 1) % E : Nat) : Int) := by
      rw [show (m : Int) + 1 = ((m + 1 : Nat) : Int) by omega]; rfl
    have hte : ((m : Int) + 1) % (E : Int) = (((m + 1) % E : Nat) : Int) := by
      rw [show (m : Int) + 1 = ((m + 1 : Nat) : Int) by omega]; rfl
    have hmE := Nat.mod_lt (m + 1) (show 0 < E by omega)
    have hq1 : IntKind.i64.wrap ((m : Int) + 1 + 1) = (m : Int) + 1 + 1 := IntWalk.i64_in _ (by omega)
    have hq2 : (m : Int) + 1 - 1 = m := by omega
    have hq3 : IntKind.i64.wrap ((m : Int) + 1 - 1) = m := by rw [hq2]; exact IntWalk.i64_in _ (by omega)
    have hq8 : IntKind.i64.wrap (m : Int) = m := IntWalk.i64_in _ (by omega)
    have hq6 : IntKind.i64.wrap (((m : Int) + 1).tmod (E : Int)) = ((m : Int) + 1).tmod (E : Int) := IntWalk.i64_in _ (by omega)
    have hqe : ¬ (E : Int) = 0 := by omega
    have hm0 : (0 : Int) ≤ (m : Int) := by omega
    obtain ⟨gko, hgko⟩ : ∃ gko, gko = gk := ⟨_, rfl⟩
    by_cases hlt : m < n
    · obtain ⟨ad, rfl, hbl, hc⟩ := Ints.at_ (Reads.below h hb hB) hlt
      have hzk := Hz.out _ (nth_mem (zs := zs) (k := m) (by rw [HL.out]; exact hlt))
      generalize hnz : nth zs m = z at *
      have hk1 : (m : Int) < (n : Int) := by omega
      have e7 : decide ((m : Int) + 1 ≤ (n : Int)) = true := by simp; omega
      have e8 : (m : Int) + 1 ≤ (n : Int) := by omega
      go_wp2_with fail
      go_loopg [8, 10] z.toNat (fun gk vc vi wr => ∃ (j : Nat) (A1 : Option Addr) (c1 : Nat), j ≤ z.toNat ∧ gk + j = z.toNat ∧ vi = .int .i64 (j : Int) ∧ vc = .slice A1 ((cameTo zs m).length + j) c1 ∧
        Own wr w.heap.size 2 1 A1 ((cameTo zs m).length + j) c1 ((cameTo zs m ++ List.replicate j ((m : Int) + 1)).map (Value.int .i64)) ∧ Own wr w.heap.size 2 1 A2 (outTo zs E S m).length c2 ((outTo zs E S m).map (Value.int .i64)) ∧ Apart A1 A2 ∧ Apart A2 A1 ∧ Below w.heap.size w wr)
      case atStart => exact ⟨0, A1, c1, Nat.zero_le _, by omega, rfl, rfl, by simpa using ho1, ho2, ap12, ap21, hb⟩
      case round =>
        clear ho1 ho2 ap12 ap21 hb hbs hbl hc
        obtain ⟨j, A1, c1, hj, hgk2, rfl, rfl, ho1, ho2x, ap12x, ap21x, hb⟩ := hrel
        have Hgk2 := Lib.hid hgk2
        have hbs := hb.size
        clear hgk2
        obtain ⟨ad', ea, hbl, hc⟩ := Ints.at_ (Reads.below h hb hB) hlt
        injection ea with ea
        subst ea
        rw [hnz] at hc
        have hj0 : (0 : Int) ≤ (j : Int) := by omega
        have hq9 : IntKind.i64.wrap ((j : Int) + 1) = (j : Int) + 1 := IntWalk.i64_in _ (by omega)
        by_cases hjl : j < z.toNat
        · have hjz : (j : Int) < z := by omega
          go_wp2_with (at_builtin; refine wpList_app rfl _ _ 24 rfl 2 i0 _ 1 8 Try.underlying24 hi hz0 hz1 hz2 rfl (by omega) (by omega) w.heap.size _ _ _ _ rfl (ho1.alloc _) ⟨wr.heap.size, 0, none⟩ 1 1 _ rfl rfl (cell_one_new _ _ _) (by simp [Value.oneCell']) (by omega) (by simp; omega) ?_)
          intro A3 c3 w3 ho3 hgA hbA hat
          have ho4 : Own w3 w.heap.size 2 1 A3 ((cameTo zs m).length + (j + 1)) c3 ((cameTo zs m ++ List.replicate (j + 1) ((m : Int) + 1)).map (Value.int .i64)) := rep_app ho3 rfl
          have ho5 := own_grown (ho2x.alloc _) hgA ap12x
          have hb4 : Below w.heap.size w w3 := (hb.alloc hbs _).trans hbA
          have ap3 : Apart A3 A2 := apart_grown ap12x hat (fun x hx => by have := (ho2x.block_lt _ hx).2.2.2; simp; omega)
          clear ho3 hgA hbA hat ho1 ho2x
          go_wp2_with fail
          have hgk2 := Hgk2.out
          go_roundg (gk - 1)
          case rel => exact ⟨j + 1, A3, c3, by omega, by omega, by go_num, rfl, ho4, ho5, ap3, ap3.symm, hb4⟩
          case measure => omega
        · have hje : j = z.toNat := by omega
          have hjz : ¬ (j : Int) < z := by omega
          have ho1x : Own wr w.heap.size 2 1 A1 (cameTo zs (m + 1)).length c1 ((cameTo zs (m + 1)).map (Value.int .i64)) := by
            rw [Hcame.out, List.length_append, List.length_replicate, ← hje]; exact ho1
          have hlx : (cameTo zs m).length + j = (cameTo zs (m + 1)).length := by rw [Hcame.out, List.length_append, List.length_replicate, ← hje]
          rw [hlx]
          clear ho1 Hcame
          by_cases hride : (m + 1) % E = 0
          · have d1 : (((m : Int) + 1) % (E : Int) == 0) = true := by rw [hte, hride]; rfl
            have d1' : (((m : Int) + 1) % (E : Int) != 0) = false := by rw [hte, hride]; rfl
            have Hk : Hid (outTo zs E S (m + 1) = leaveTo (cameTo zs (m + 1)) (outTo zs E S m) ((m : Int) + 1) (min S ((cameTo zs (m + 1)).length - (outTo zs E S m).length))) := Lib.hid (by rw [Hout.out, if_pos hride])
            have Hcm : Hid (∀ x ∈ cameTo zs (m + 1), 1 ≤ x ∧ x ≤ ((m + 1 : Nat) : Int)) := Lib.hid came_zero_mem
            generalize hCA : cameTo zs (m + 1) = CA at *
            generalize hOU : outTo zs E S m = OU at *
            have hmin1 : min S (CA.length - OU.length) ≤ S := Nat.min_le_left _ _
            have hmin2 : min S (CA.length - OU.length) ≤ CA.length - OU.length := Nat.min_le_right _ _
            have hmin3 : min S (CA.length - OU.length) = S ∨ min S (CA.length - OU.length) = CA.length - OU.length := by omega
            generalize hK : min S (CA.length - OU.length) = K at *
            clear hK
            have hqs : IntKind.i64.wrap ((CA.length : Int) - (OU.length : Int)) = (CA.length : Int) - (OU.length : Int) := IntWalk.i64_in _ (by omega)
            go_wp2_with fail
            go_loopg [7, 11] (K) (fun gk vo vi wr => ∃ (k : Nat) (A2 : Option Addr) (c2 : Nat), k ≤ K ∧ gk + k = K ∧ vi = .int .i64 (k : Int) ∧ vo = .slice A2 (OU.length + k) c2 ∧
              Own wr w.heap.size 2 1 A1 CA.length c1 (CA.map (Value.int .i64)) ∧ Own wr w.heap.size 2 1 A2 (OU.length + k) c2 ((leaveTo CA OU ((m : Int) + 1) k).map (Value.int .i64)) ∧ Apart A1 A2 ∧ Apart A2 A1 ∧ Below w.heap.size w wr)
            case atStart => exact ⟨0, A2, c2, Nat.zero_le _, by omega, rfl, rfl, ho1x, by rw [leaveTo_zero]; exact ho2x, ap12x, ap21x, hb⟩
            case round =>
              clear ho2x ap12x ap21x ho1x hb
              obtain ⟨k, A2, c2, hk, hgk2, rfl, rfl, ho1, ho2, ap12, ap21, hb⟩ := hrel
              have Hgk2 := Lib.hid hgk2
              have hbs := hb.size
              clear hgk2
              have hk0 : (0 : Int) ≤ (k : Int) := by omega
              by_cases hlt : k < K
              · have hlt2 : OU.length + k < CA.length := by omega
                have e1 : decide ((k : Int) < (S : Int)) = true := by simp; omega
                have e2 : decide (((OU.length + k : Nat) : Int) < (CA.length : Int)) = true := by simp; omega
                have e3a : (k : Int) < (S : Int) := by omega
                have e3b : (k : Int) < (CA.length : Int) - (OU.length : Int) := by omega
                obtain ⟨adc, ec, hblc, hcc⟩ := Ints.at_ (own_ints ho1) hlt2
                subst ec
                have hcx := Hcm.out _ (nth_mem (zs := CA) (k := OU.length + k) hlt2)
                have Hlv := Lib.hid (leaveTo_succ CA OU ((m : Int) + 1) k)
                generalize nth CA (OU.length + k) = x at *
                have hqx : IntKind.i64.wrap ((m : Int) + 1 - x) = (m : Int) + 1 - x := IntWalk.i64_in _ (by omega)
                have hj0 : (0 : Int) ≤ ((OU.length + k : Nat) : Int) := by omega
                have hj1 : ((OU.length + k : Nat) : Int) < (CA.length : Int) := by omega
                have hj2 : (OU.length : Int) + (k : Int) < (CA.length : Int) := by omega
                have hq9 : IntKind.i64.wrap ((k : Int) + 1) = (k : Int) + 1 := IntWalk.i64_in _ (by omega)
                go_wp2_with (at_builtin; refine wpList_app rfl _ _ 24 rfl 2 i0 _ 1 8 Try.underlying24 hi hz0 hz1 hz2 rfl (by omega) (by omega) w.heap.size _ _ _ _ rfl (ho2.alloc _) ⟨wr.heap.size, 0, none⟩ 1 1 _ rfl rfl (cell_one_new _ _ _) (by simp [Value.oneCell']) (by omega) (by simp; omega) ?_)
                intro A3 c3 w3 ho3 hgA hbA hat
                have ho4 : Own w3 w.heap.size 2 1 A3 (OU.length + (k + 1)) c3 ((leaveTo CA OU ((m : Int) + 1) (k + 1)).map (Value.int .i64)) := by
                  rw [Hlv.out, List.map_append]; exact ho3
                have ho5 : Own w3 w.heap.size 2 1 (some adc) CA.length _ (CA.map (Value.int .i64)) := own_grown (ho1.alloc _) hgA ap21
                have hb4 : Below w.heap.size w w3 := (hb.alloc hbs _).trans hbA
                have ap3 : Apart A3 (some adc) := apart_grown ap21 hat (fun x hx => by injection hx with hx; subst hx; have := (ho1.block_lt _ rfl).2.2.2; simp; omega)
                clear ho3 hgA hbA hat ho1 ho2
                go_wp2_with fail
                have hgk2 := Hgk2.out
                go_roundg (gk - 1)
                case rel => exact ⟨k + 1, A3, c3, by omega, by omega, by go_num, rfl, ho5, ho4, ap3.symm, ap3, hb4⟩
                case measure => omega
              · have hke : k = K := by omega
                rw [hke, ← Hk.out] at ho2
                have hl2 : (outTo zs E S (m + 1)).length = OU.length + k := by rw [Hk.out, leaveTo_len, hke]
                have hless := Hless.out (by first | exact .inr (by omega) | exact .inl (by omega) | exact .inl (by rw [HL.out]; omega) | omega)
                by_cases e4 : (k : Int) < (S : Int)
                · have e5 : decide ((k : Int) < (S : Int)) = true := by simp; omega
                  have e6 : decide (((OU.length + k : Nat) : Int) < (CA.length : Int)) = false := by simp; omega
                  go_wp2_with fail
                  have hgk := Hgk.out
                  have hmm := Hmm.out
                  go_roundg (leftW zs E S (m + 1))
                  case rel => exact ⟨m + 1, A1, c1, A2, c2, rfl, by omega, by go_num, by rw [hCA], by rw [hl2]; first | rfl | rw [hke], by rw [hCA]; exact ho1, by rw [hl2, hke]; exact ho2, ap12, ap21, hb⟩
                  case measure => omega
                · have e5 : decide ((k : Int) < (S : Int)) = false := by simp; omega
                  go_wp2_with fail
                  have hgk := Hgk.out
                  have hmm := Hmm.out
                  go_roundg (leftW zs E S (m + 1))
                  case rel => exact ⟨m + 1, A1, c1, A2, c2, rfl, by omega, by go_num, by rw [hCA], by rw [hl2]; first | rfl | rw [hke], by rw [hCA]; exact ho1, by rw [hl2, hke]; exact ho2, ap12, ap21, hb⟩
                  case measure => omega
          · have d0 : ¬ ((((m + 1) % E : Nat) : Int) = 0) := fun h => hride (Int.ofNat.inj h)
            have d1 : (((m : Int) + 1) % (E : Int) == 0) = false := by rw [hte]; exact beq_eq_false_iff_ne.2 d0
            have d1' : (((m : Int) + 1) % (E : Int) != 0) = true := by rw [hte]; exact bne_iff_ne.2 d0
            have htb : 0 ≤ ((m : Int) + 1).tmod (E : Int) ∧ ((m : Int) + 1).tmod (E : Int) < 60 := by rw [htm]; omega
            clear d0 htm hte
            have Hk : Hid (outTo zs E S (m + 1) = outTo zs E S m) := Lib.hid (by rw [Hout.out, if_neg hride])
            have hless := Hless.out (by first | exact .inr (by omega) | exact .inl (by omega) | exact .inl (by rw [HL.out]; omega) | omega)
            go_wp2_with fail
            have hgk := Hgk.out
            have hmm := Hmm.out
            go_roundg (leftW zs E S (m + 1))
            case rel => exact ⟨m + 1, A1, c1, A2, c2, rfl, by omega, by go_num, rfl, by rw [Hk.out], ho1x, by rw [Hk.out]; exact ho2x, ap12x, ap21x, hb⟩
            case measure => omega
    · have hk1 : ¬ (m : Int) + 1 ≤ (n : Int) := by omega
      have e7 : decide ((m : Int) + 1 ≤ (n : Int)) = false := by simp; omega
      have hnz := Hnth.out (by omega)
      have hce : cameTo zs (m + 1) = cameTo zs m := by rw [Hcame.out, hnz]; simp
      have hcall := Hend.out (by rw [HL.out]; omega)
      have ho2x := ho2
      have ap12x := ap12
      have ap21x := ap21
      have ho1x : Own wr w.heap.size 2 1 A1 (cameTo zs (m + 1)).length c1 ((cameTo zs (m + 1)).map (Value.int .i64)) := by rw [hce]; exact ho1
      rw [← hce]
      clear ho1 ho2 ap12 ap21 Hcame
      by_cases hcond : ((outTo zs E S m).length : Int) < zs.sum
      · have e9 : decide (((outTo zs E S m).length : Int) < ((cameTo zs (m + 1)).length : Int)) = true := by rw [hce]; simp; omega
        have Hce := Lib.hid hce
        clear hce
        by_cases hride : (m + 1) % E = 0
        · have d1 : (((m : Int) + 1) % (E : Int) == 0) = true := by rw [hte, hride]; rfl
          have d1' : (((m : Int) + 1) % (E : Int) != 0) = false := by rw [hte, hride]; rfl
          have Hk : Hid (outTo zs E S (m + 1) = leaveTo (cameTo zs (m + 1)) (outTo zs E S m) ((m : Int) + 1) (min S ((cameTo zs (m + 1)).length - (outTo zs E S m).length))) := Lib.hid (by rw [Hout.out, if_pos hride])
          have Hcm : Hid (∀ x ∈ cameTo zs (m + 1), 1 ≤ x ∧ x ≤ ((m + 1 : Nat) : Int)) := Lib.hid came_zero_mem
          generalize hCA : cameTo zs (m + 1) = CA at *
          generalize hOU : outTo zs E S m = OU at *
          have hmin1 : min S (CA.length - OU.length) ≤ S := Nat.min_le_left _ _
          have hmin2 : min S (CA.length - OU.length) ≤ CA.length - OU.length := Nat.min_le_right _ _
          have hmin3 : min S (CA.length - OU.length) = S ∨ min S (CA.length - OU.length) = CA.length - OU.length := by omega
          generalize hK : min S (CA.length - OU.length) = K at *
          clear hK
          have hqs : IntKind.i64.wrap ((CA.length : Int) - (OU.length : Int)) = (CA.length : Int) - (OU.length : Int) := IntWalk.i64_in _ (by omega)
          go_wp2_with fail
          go_loopg [7, 11] (K) (fun gk vo vi wr => ∃ (k : Nat) (A2 : Option Addr) (c2 : Nat), k ≤ K ∧ gk + k = K ∧ vi = .int .i64 (k : Int) ∧ vo = .slice A2 (OU.length + k) c2 ∧
            Own wr w.heap.size 2 1 A1 CA.length c1 (CA.map (Value.int .i64)) ∧ Own wr w.heap.size 2 1 A2 (OU.length + k) c2 ((leaveTo CA OU ((m : Int) + 1) k).map (Value.int .i64)) ∧ Apart A1 A2 ∧ Apart A2 A1 ∧ Below w.heap.size w wr)
          case atStart => exact ⟨0, A2, c2, Nat.zero_le _, by omega, rfl, rfl, ho1x, by rw [leaveTo_zero]; exact ho2x, ap12x, ap21x, hb⟩
          case round =>
            clear ho2x ap12x ap21x ho1x hb
            obtain ⟨k, A2, c2, hk, hgk2, rfl, rfl, ho1, ho2, ap12, ap21, hb⟩ := hrel
            have Hgk2 := Lib.hid hgk2
            have hbs := hb.size
            clear hgk2
            have hk0 : (0 : Int) ≤ (k : Int) := by omega
            by_cases hlt : k < K
            · have hlt2 : OU.length + k < CA.length := by omega
              have e1 : decide ((k : Int) < (S : Int)) = true := by simp; omega
              have e2 : decide (((OU.length + k : Nat) : Int) < (CA.length : Int)) = true := by simp; omega
              have e3a : (k : Int) < (S : Int) := by omega
              have e3b : (k : Int) < (CA.length : Int) - (OU.length : Int) := by omega
              obtain ⟨adc, ec, hblc, hcc⟩ := Ints.at_ (own_ints ho1) hlt2
              subst ec
              have hcx := Hcm.out _ (nth_mem (zs := CA) (k := OU.length + k) hlt2)
              have Hlv := Lib.hid (leaveTo_succ CA OU ((m : Int) + 1) k)
              generalize nth CA (OU.length + k) = x at *
              have hqx : IntKind.i64.wrap ((m : Int) + 1 - x) = (m : Int) + 1 - x := IntWalk.i64_in _ (by omega)
              have hj0 : (0 : Int) ≤ ((OU.length + k : Nat) : Int) := by omega
              have hj1 : ((OU.length + k : Nat) : Int) < (CA.length : Int) := by omega
              have hj2 : (OU.length : Int) + (k : Int) < (CA.length : Int) := by omega
              have hq9 : IntKind.i64.wrap ((k : Int) + 1) = (k : Int) + 1 := IntWalk.i64_in _ (by omega)
              go_wp2_with (at_builtin; refine wpList_app rfl _ _ 24 rfl 2 i0 _ 1 8 Try.underlying24 hi hz0 hz1 hz2 rfl (by omega) (by omega) w.heap.size _ _ _ _ rfl (ho2.alloc _) ⟨wr.heap.size, 0, none⟩ 1 1 _ rfl rfl (cell_one_new _ _ _) (by simp [Value.oneCell']) (by omega) (by simp; omega) ?_)
              intro A3 c3 w3 ho3 hgA hbA hat
              have ho4 : Own w3 w.heap.size 2 1 A3 (OU.length + (k + 1)) c3 ((leaveTo CA OU ((m : Int) + 1) (k + 1)).map (Value.int .i64)) := by
                rw [Hlv.out, List.map_append]; exact ho3
              have ho5 : Own w3 w.heap.size 2 1 (some adc) CA.length _ (CA.map (Value.int .i64)) := own_grown (ho1.alloc _) hgA ap21
              have hb4 : Below w.heap.size w w3 := (hb.alloc hbs _).trans hbA
              have ap3 : Apart A3 (some adc) := apart_grown ap21 hat (fun x hx => by injection hx with hx; subst hx; have := (ho1.block_lt _ rfl).2.2.2; simp; omega)
              clear ho3 hgA hbA hat ho1 ho2
              go_wp2_with fail
              have hgk2 := Hgk2.out
              go_roundg (gk - 1)
              case rel => exact ⟨k + 1, A3, c3, by omega, by omega, by go_num, rfl, ho5, ho4, ap3.symm, ap3, hb4⟩
              case measure => omega
            · have hke : k = K := by omega
              rw [hke, ← Hk.out] at ho2
              have hl2 : (outTo zs E S (m + 1)).length = OU.length + k := by rw [Hk.out, leaveTo_len, hke]
              have hless := Hless.out (by first | exact .inr (by omega) | exact .inl (by omega) | exact .inl (by rw [HL.out]; omega) | omega)
              by_cases e4 : (k : Int) < (S : Int)
              · have e5 : decide ((k : Int) < (S : Int)) = true := by simp; omega
                have e6 : decide (((OU.length + k : Nat) : Int) < (CA.length : Int)) = false := by simp; omega
                go_wp2_with fail
                have hgk := Hgk.out
                have hmm := Hmm.out
                go_roundg (leftW zs E S (m + 1))
                case rel => exact ⟨m + 1, A1, c1, A2, c2, rfl, by omega, by go_num, by rw [hCA], by rw [hl2]; first | rfl | rw [hke], by rw [hCA]; exact ho1, by rw [hl2, hke]; exact ho2, ap12, ap21, hb⟩
                case measure => omega
              · have e5 : decide ((k : Int) < (S : Int)) = false := by simp; omega
                go_wp2_with fail
                have hgk := Hgk.out
                have hmm := Hmm.out
                go_roundg (leftW zs E S (m + 1))
                case rel => exact ⟨m + 1, A1, c1, A2, c2, rfl, by omega, by go_num, by rw [hCA], by rw [hl2]; first | rfl | rw [hke], by rw [hCA]; exact ho1, by rw [hl2, hke]; exact ho2, ap12, ap21, hb⟩
                case measure => omega
        · have d0 : ¬ ((((m + 1) % E : Nat) : Int) = 0) := fun h => hride (Int.ofNat.inj h)
          have d1 : (((m : Int) + 1) % (E : Int) == 0) = false := by rw [hte]; exact beq_eq_false_iff_ne.2 d0
          have d1' : (((m : Int) + 1) % (E : Int) != 0) = true := by rw [hte]; exact bne_iff_ne.2 d0
          have htb : 0 ≤ ((m : Int) + 1).tmod (E : Int) ∧ ((m : Int) + 1).tmod (E : Int) < 60 := by rw [htm]; omega
          clear d0 htm hte
          have Hk : Hid (outTo zs E S (m + 1) = outTo zs E S m) := Lib.hid (by rw [Hout.out, if_neg hride])
          have hless := Hless.out (by first | exact .inr (by omega) | exact .inl (by omega) | exact .inl (by rw [HL.out]; omega) | omega)
          go_wp2_with fail
          have hgk := Hgk.out
          have hmm := Hmm.out
          go_roundg (leftW zs E S (m + 1))
          case rel => exact ⟨m + 1, A1, c1, A2, c2, rfl, by omega, by go_num, rfl, by rw [Hk.out], ho1x, by rw [Hk.out]; exact ho2x, ap12x, ap21x, hb⟩
          case measure => omega
      · have e9 : decide (((outTo zs E S m).length : Int) < ((cameTo zs (m + 1)).length : Int)) = false := by rw [hce]; simp; omega
        have Hce := Lib.hid hce
        clear hce
        have ho2 := ho2x
        go_wp2_with fail
        go_ret
        exact ⟨m, A2, _, c2, rfl, by omega, hm2, rfl, ho2, hb⟩

end Go.Proofs.Ytmiilnddfmeldaa
