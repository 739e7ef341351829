/- Ballast: BalanceGroups: contracts of both sides. -/
import Derived.Test.YtdighpgfepooaaaPe
namespace Go.Proofs.Ytdighpgfepooaaa
open Go.RowKit
set_option maxRecDepth 100000
set_option linter.unusedVariables false
set_option linter.unusedSimpArgs false

theorem mass_not (l : List Int) : l.any (fun z => !inB z 1 100000) = !massB l := by
  unfold massB
  induction l with
  | nil => rfl
  | cons z zs ih => rw [List.any_cons, List.all_cons, ih]; cases inB z 1 100000 <;> rfl
theorem mass_at {l : List Int} (h : massB l = true) : ∀ k, k < l.length → 0 ≤ nth l k ∧ nth l k ≤ 100000 := by
  intro k hk
  have := all_nth (f := fun x => inB x 1 100000) hk h
  simp only [inB_true] at this
  omega
theorem zok0 {room : Int} (h : 1 ≤ room) : ZOk room [0, 0] := ⟨rfl, by simp [nth]; omega⟩

theorem balance1_any (z : Int) (w : World) : Calls Try.prog 35 #[.int .i64 z] w fun e w' => e = .returned (.bool (!inB z 1 100000)) ∧ w = w' := by
  go_enter Try.func35, Try.ntmps35
  go_wp2_with (go_at_call 36; refine (within_any _ _ _ _).mono ?_; rintro e w' ⟨rfl, rfl⟩)
  go_ret
  exact ⟨rfl, rfl⟩
set_option maxHeartbeats 2000000 in
theorem implBalanceGroups_any {A : Option Addr} {n c B : Nat} {l : List Int} {room budget : Int} {w : World} (h : Ints w B A n l) (hB : B ≤ w.heap.size) (hc : n ≤ c) (hn : n ≤ 1048576) :
    Calls Try.prog 11 #[.slice A n c, .int .i64 room, .int .i64 budget] w fun e w' => ∃ A2 n2 c2, e = .returned (.tuple #[.slice A2 n2 c2, .int .i64 (rBalanceGroups l room budget).2.1, .int .i64 (rBalanceGroups l room budget).2.2]) ∧ n2 ≤ 1048576 ∧
      Own w' w.heap.size 2 1 A2 n2 c2 ((rBalanceGroups l room budget).1.map (Value.int .i64)) ∧ Below w.heap.size w w' := by
  have HL := Lib.hid h.len
  have Hcf : Hid (Calls Try.prog 34 #[.slice A n c, .func (.func 35) #[] #[]] w fun e w' => e = .returned (.bool (!massB l)) ∧ w = w') := Lib.hid (by
    have := containsFunc_any _ (Lib.hid Try.call35) (fun z => !inB z 1 100000) (Lib.hid balance1_any) A n c B l w h (by omega)
    rw [mass_not] at this
    exact this)
  by_cases hl : n ≤ 10
  · cases v1 : massB l with
    | false =>
      have Hr : Hid (rBalanceGroups l room budget = ([], 0, 2)) := Lib.hid (rB_no (by unfold balB; rw [v1]; simp))
      have V1 := Lib.hid v1
      clear v1
      go_enter Try.func11, Try.ntmps11
      go_wp2_with fail
      refine Hcf.out.mono ?_
      rintro e w' ⟨rfl, rfl⟩
      rw [V1.out]
      go_wp2_with fail
      go_ret3
      exact ⟨none, 0, 0, by rw [Hr.out]; rfl, by omega, by rw [Hr.out]; exact Own.nil _ _ _ _, Below.refl _ _⟩
    | true =>
    cases v2 : inB room 1 1000000 with
    | false =>
      have Hr : Hid (rBalanceGroups l room budget = ([], 0, 2)) := Lib.hid (rB_no (by unfold balB; rw [v1, v2]; simp))
      have V1 := Lib.hid v1
      have V2 := Lib.hid v2
      clear v1 v2
      go_enter Try.func11, Try.ntmps11
      go_wp2_with fail
      refine Hcf.out.mono ?_
      rintro e w' ⟨rfl, rfl⟩
      rw [V1.out]
      go_wp2_with (go_at_call 36; refine (within_any _ _ _ _).mono ?_; rintro e w' ⟨rfl, rfl⟩; rw [V2.out])
      go_ret3
      exact ⟨none, 0, 0, by rw [Hr.out]; rfl, by omega, by rw [Hr.out]; exact Own.nil _ _ _ _, Below.refl _ _⟩
    | true =>
    cases v3 : inB budget 1 20000 with
    | false =>
      have Hr : Hid (rBalanceGroups l room budget = ([], 0, 2)) := Lib.hid (rB_no (by unfold balB; rw [v1, v2, v3]; simp))
      have V1 := Lib.hid v1
      have V2 := Lib.hid v2
      have V3 := Lib.hid v3
      clear v1 v2 v3
      go_enter Try.func11, Try.ntmps11
      go_wp2_with fail
      refine Hcf.out.mono ?_
      rintro e w' ⟨rfl, rfl⟩
      rw [V1.out]
      go_wp2_with (first | (go_at_call 36; refine (within_any _ _ _ _).mono ?_; rintro e w' ⟨rfl, rfl⟩; rw [V2.out]) | (go_at_call 37; refine (isBudget_any _ _).mono ?_; rintro e w' ⟨rfl, rfl⟩; rw [V3.out]))
      go_ret3
      exact ⟨none, 0, 0, by rw [Hr.out]; rfl, by omega, by rw [Hr.out]; exact Own.nil _ _ _ _, Below.refl _ _⟩
    | true =>
      have hbud := inB_true.1 v3
      have hroom := inB_true.1 v2
      obtain ⟨q, hq⟩ : ∃ q, bs room l [] [0, 0] ⟨budget.toNat, false, none⟩ = q := ⟨_, rfl⟩
      have Hr := Lib.hid (rB_go (l := l) (r := room) (b := budget) (by unfold balB; rw [v1, v2, v3, HL.out]; simp [hl]) hq)
      have Hx : Hid (∀ k, k < n → 0 ≤ nth l k ∧ nth l k ≤ 100000) := Lib.hid (by rw [← HL.out]; exact mass_at v1)
      have Hqok : Hid (BOk n q) := Lib.hid (by rw [← hq]; exact bs_ok room l [] _ _ (by rw [HL.out]; simp) (fun g m e => by cases e))
      obtain ⟨bn, rfl⟩ := Int.eq_ofNat_of_zero_le (show 0 ≤ budget by omega)
      have Hq := Lib.hid hq
      have V1 := Lib.hid v1
      have V2 := Lib.hid v2
      have V3 := Lib.hid v3
      clear v1 v2 v3 hq
      go_enter Try.func11, Try.ntmps11
      go_wp2_with fail
      refine Hcf.out.mono ?_
      rintro e w' ⟨rfl, rfl⟩
      rw [V1.out]
      go_wp2_with (first | (go_at_call 36; refine (within_any _ _ _ _).mono ?_; rintro e w' ⟨rfl, rfl⟩; rw [V2.out]) | (go_at_call 37; refine (isBudget_any _ _).mono ?_; rintro e w' ⟨rfl, rfl⟩; rw [V3.out]))
      have pre : Below w.heap.size w (w.alloc (.cells #[.int .i64 (bn : Int), .bool false, .slice A n c, .int .i64 room, .slice none 0 0, .slice none 0 0, .int .i64 0, .bool false] 68)) := (Below.refl _ _).alloc (Nat.le_refl _) _
      have hHC : HC (w.alloc (.cells #[.int .i64 (bn : Int), .bool false, .slice A n c, .int .i64 room, .slice none 0 0, .slice none 0 0, .int .i64 0, .bool false] 68)) w.heap.size (bvs A n c room none ([] : List Int).length 0 none 0 0 ⟨bn, false, none⟩) :=
        ⟨fun j u hu => by simpa [bvs, bbM] using hu, fun j => by simp, by simp⟩
      have hr := (Reads.below h pre hB).more (show B ≤ w.heap.size by omega)
      have HHC := Lib.hid hHC
      have hsz : w.heap.size ≤ (w.alloc (.cells #[.int .i64 (bn : Int), .bool false, .slice A n c, .int .i64 room, .slice none 0 0, .slice none 0 0, .int .i64 0, .bool false] 68)).heap.size := pre.size
      have Pre := Lib.hid pre
      clear hHC pre
      generalize w.alloc (.cells #[.int .i64 (bn : Int), .bool false, .slice A n c, .int .i64 room, .slice none 0 0, .slice none 0 0, .int .i64 0, .bool false] 68) = w2 at *
      have hbz : ((bn : Int)).toNat = bn := by omega
      have hq2 : bs room l [] [0, 0] ⟨bn, false, none⟩ = q := by have := Hq.out; rwa [hbz] at this
      have hsz2 : w.heap.size < w2.heap.size := HHC.out.lt
      refine (search_any n A none none n c 0 0 0 w.heap.size room 0 0 l [] ⟨bn, false, none⟩ w2 hr hl Hx.out (zok0 hroom.1) hroom.2 (by simp) (by simp only; omega) (fun g m e => by cases e) HHC.out (Own.nil _ _ _ _) (Own.nil _ _ _ _) (by intro a a' e; cases e)).mono ?_
      rw [show l.drop ([] : List Int).length = l from rfl]
      rintro e w3 ⟨Ag, cg, Ab, nb, cb, rfl, hc3, hg3, hb3, hap3, ht3, hon3⟩
      rw [hq2] at hc3 hb3
      have b3 := Pre.out.trans (touch2_belowM ht3 (by omega))
      have d1 : w3.cell? ⟨w.heap.size, 1, none⟩ = some (.bool q.spent) := hc3.at_ 1 _ rfl
      have d5 : w3.cell? ⟨w.heap.size, 5, none⟩ = some (.slice Ab nb cb) := hc3.at_ 5 _ rfl
      have d6 : w3.cell? ⟨w.heap.size, 6, none⟩ = some (.int .i64 (bbM q)) := hc3.at_ 6 _ rfl
      have d7 : w3.cell? ⟨w.heap.size, 7, none⟩ = some (.bool q.best.isSome) := hc3.at_ 7 _ rfl
      have hnb := hb3.len
      have HB3 := Lib.hid hb3
      clear hc3 hg3 hb3 hap3 ht3 hon3 hq2 HHC
      cases hsp : q.spent with
      | true =>
        rw [hsp] at d1
        have Hsp := Lib.hid hsp
        clear hsp
        go_wp2_with fail
        go_ret3
        exact ⟨none, 0, 0, by rw [Hr.out, Hsp.out]; rfl, by omega, by rw [Hr.out, Hsp.out]; exact Own.nil _ _ _ _, b3⟩
      | false =>
        rw [hsp] at d1
        have Hsp := Lib.hid hsp
        cases hbe : q.best with
        | none =>
          rw [hbe] at d7
          simp only [Option.isSome_none] at d7
          have Hbe := Lib.hid hbe
          clear hsp hbe
          go_wp2_with fail
          go_ret3
          exact ⟨none, 0, 0, by rw [Hr.out, Hsp.out, Hbe.out]; rfl, by omega, by rw [Hr.out, Hsp.out, Hbe.out]; exact Own.nil _ _ _ _, b3⟩
        | some x =>
          obtain ⟨g0, m0⟩ := x
          obtain ⟨e1, e2, e3, e4⟩ := bb_some hbe
          rw [e3] at d7
          rw [e2] at d6
          rw [e1] at HB3 hnb
          have hg0 := (Hqok.out g0 m0 hbe).1
          have hnb2 : nb ≤ 1048576 := by simp at hnb; omega
          have Hbe := Lib.hid hbe
          clear hsp hbe e1 e2 e3 e4 hnb hg0
          go_wp2_with fail
          go_quiet (fail)
          go_wp2_with fail
          go_ret3
          exact ⟨Ab, nb, cb, by rw [Hr.out, Hsp.out, Hbe.out]; rfl, hnb2, by rw [Hr.out, Hsp.out, Hbe.out]; exact own_drewN (HB3.out.mono (show w.heap.size ≤ w.heap.size + 1 by omega)) _, below_drewN b3 _⟩
  · have Hr : Hid (rBalanceGroups l room budget = ([], 0, 2)) := Lib.hid (rB_no (by unfold balB; rw [HL.out]; simp [hl]))
    go_enter Try.func11, Try.ntmps11
    go_wp2_with fail
    go_ret3
    exact ⟨none, 0, 0, by rw [Hr.out]; rfl, by omega, by rw [Hr.out]; exact Own.nil _ _ _ _, Below.refl _ _⟩
end Go.Proofs.Ytdighpgfepooaaa
