/- Helpers: TaskText: contracts of both sides. -/
import Derived.Test.YtpakopkmcjdfpaaDoorSb
import Derived.Test.YtpakopkmcjdfpaaDoorTb
import Derived.Test.YtpakopkmcjdfpaaDoorHaTask
import Derived.Lib.QuietBelow
import Derived.BigQuiet
namespace Go.Proofs.YtpakopkmcjdfpaaDoor
open Go.RowKit
set_option maxRecDepth 100000
set_option linter.unusedVariables false
set_option linter.unusedSimpArgs false

def rTaskText (x : TaskR) : ByteArray := if taskB x then x.Id ++ ⟨#[32]⟩ ++ skSay x.Skills.toNat ++ ⟨#[32]⟩ ++ decA x.Until.toNat else ⟨#[]⟩
theorem taskB_parts {x : TaskR} (h : taskB x = true) : x.Id.size ≤ 10 ∧ ∃ S M : Nat, x.Skills = (S : Int) ∧ x.Until = (M : Int) ∧ S ≤ 7 ∧ M ≤ 100000000 := by
  simp only [taskB, Bool.and_eq_true, inB_true] at h
  obtain ⟨h1, ⟨h2, h3⟩, h4, h5⟩ := h
  exact ⟨(nameB_len h1).2, x.Skills.toNat, x.Until.toNat, by omega, by omega, by omega, by omega⟩
theorem skSay_sizeTask {s : Nat} (h : s ≤ 7) : (skSay s).size ≤ 40 := by
  unfold skSay
  split
  · decide
  · exact skT_size h (by omega)

set_option maxHeartbeats 1000000 in
theorem implTaskText_any {a0 : ByteArray} {a1 a2 : Int} {w : World} (hs : a0.size ≤ 1048576) (ht : TabOk w) :
    Calls Tryd.prog 12 #[.agg #[.string a0, .int .i64 a1, .int .i64 a2]] w fun e w' => e = .returned (.string (rTaskText ⟨a0, a1, a2⟩)) ∧ Below w.heap.size w w' := by
  obtain ⟨w0, hw0⟩ : ∃ w0, w.alloc (.cells #[.string a0, .int .i64 a1, .int .i64 a2] 33) = w0 := ⟨_, rfl⟩
  have b0 : Below w.heap.size w w0 := by rw [← hw0]; exact (Below.refl _ _).alloc (Nat.le_refl _) _
  have hlt0 : w.heap.size < w0.heap.size := by rw [← hw0]; simp
  have x0 : w0.cell? ⟨w.heap.size, 0, none⟩ = some (.string a0) := by rw [← hw0]; simp
  have x1 : w0.cell? ⟨w.heap.size, 1, none⟩ = some (.int .i64 a1) := by rw [← hw0]; simp
  have x2 : w0.cell? ⟨w.heap.size, 2, none⟩ = some (.int .i64 a2) := by rw [← hw0]; simp
  have HW0 := Lib.hid hw0
  have B0 := Lib.hid b0
  clear hw0 b0
  have Ht := Lib.hid ht
  clear ht
  cases hv : taskB ⟨a0, a1, a2⟩ with
  | false =>
    have Hr : Hid (rTaskText ⟨a0, a1, a2⟩ = ⟨#[]⟩) := Lib.hid (by unfold rTaskText; rw [hv]; rfl)
    have Hv := Lib.hid hv
    clear hv
    go_enter Tryd.func12, Tryd.ntmps12
    go_wp2_with fail
    rw [HW0.out]
    refine (validTask_any hs).mono ?_
    rw [Hv.out]
    rintro e w1 ⟨rfl, b1⟩
    go_wp2_with fail
    go_ret
    exact ⟨ret_strT (by rw [Hr.out]), B0.out.trans (b1.mono (Nat.le_of_lt hlt0))⟩
  | true =>
    obtain ⟨hid, S, M, hS, hM, hS7, hM9⟩ := taskB_parts hv
    simp only at hid hS hM
    subst hS
    subst hM
    have Hr : Hid (rTaskText ⟨a0, (S : Int), (M : Int)⟩ = a0 ++ ⟨#[32]⟩ ++ skSay S ++ ⟨#[32]⟩ ++ decA M) := Lib.hid (by unfold rTaskText; rw [hv]; rfl)
    have HrS : Hid (rSkill (S : Int) = skSay S) := Lib.hid (by unfold rSkill; rw [if_pos (inB_true.2 (by omega))]; rfl)
    have hk1 := skSay_sizeTask hS7
    have hk2 := decA_size M (by omega)
    have Hv := Lib.hid hv
    clear hv
    go_enter Tryd.func12, Tryd.ntmps12
    go_wp2_with fail
    rw [HW0.out]
    refine (validTask_any hs).mono ?_
    rw [Hv.out]
    rintro e w1 ⟨rfl, b1⟩
    have y0 := (b1.cell (p := ⟨w.heap.size, 0, none⟩) hlt0).trans x0
    have y1 := (b1.cell (p := ⟨w.heap.size, 1, none⟩) hlt0).trans x1
    have y2 := (b1.cell (p := ⟨w.heap.size, 2, none⟩) hlt0).trans x2
    have B1 := Lib.hid (B0.out.trans (b1.mono (Nat.le_of_lt hlt0)))
    have hs1 := B1.out.size
    have HT1 : Hid (∀ d os, TabOk (Sort.grow (redrawn w1 d) os)) := Lib.hid (fun d os => Ht.out.below (B1.out.trans ((below_regrown w1 d os).mono hs1)))
    have cS : ∀ d os, Calls Tryd.prog 16 #[.int .i64 (S : Int)] (Sort.grow (redrawn w1 d) os) fun e w'' => e = .returned (.string (skSay S)) ∧ ∃ p : Regrown, w'' = Sort.grow (redrawn w1 p.d) p.os := fun d os => by
      have := implSkillText_any (s := (S : Int)) (w := Sort.grow (redrawn w1 d) os)
      rw [HrS.out] at this
      exact Calls.regrown_of this
    have cD : ∀ d os, Calls Tryd.prog 17 #[.int .i64 (M : Int)] (Sort.grow (redrawn w1 d) os) fun e w'' => e = .returned (.string (decA M)) ∧ ∃ p : Regrown, w'' = Sort.grow (redrawn w1 p.d) p.os := fun d os =>
      Calls.regrown_of (decimal_nat (by omega) (HT1.out d os))
    generalize skSay S = sk at *
    generalize decA M = de at *
    have hz1 : ¬ 9223372036854775807 < a0.size + 1 := by omega
    have hz2 : ¬ 9223372036854775807 < a0.size + 1 + sk.size := by omega
    have hz3 : ¬ 9223372036854775807 < a0.size + 1 + sk.size + 1 := by omega
    have hz4 : ¬ 9223372036854775807 < a0.size + 1 + sk.size + 1 + de.size := by omega
    clear x0 x1 x2 b1
    go_wp2_with fail
    have q0 := cell_regrown y0
    have q1 := cell_regrown y1
    have q2 := cell_regrown y2
    clear y0 y1 y2
    refine wp_region_quiet_below (by kernel_rfl) (by kernel_rfl) ?_
    repeat (go_big_quiet_step (first | with_reducible exact cS _ _ | with_reducible exact cD _ _))
    refine wpQuiet_nil ?_
    intro _ hw'
    obtain ⟨⟨dq, osq⟩, hw''⟩ := hw'
    subst hw''
    have hbS := B1.out.trans ((below_regrown w1 dq osq).mono hs1)
    clear cS cD q0 q1 q2
    go_wp2_with fail
    go_ret
    exact ⟨ret_strT (by rw [Hr.out]), hbS⟩

set_option maxHeartbeats 1000000 in
theorem l24Written_any {p : Addr} {a0 : ByteArray} {S M : Nat} {w : World} (h0 : w.cell? p = some (.string a0)) (h1 : w.cell? ⟨p.block, p.off + 1, none⟩ = some (.int .i64 (S : Int))) (h2 : w.cell? ⟨p.block, p.off + 2, none⟩ = some (.int .i64 (M : Int))) (hs : a0.size ≤ 10) (hS7 : S ≤ 7) (hM9 : M ≤ 100000000) :
    Calls Tryd.prog 19 #[.pointer (some p)] w fun e w' => e = .returned (.string (a0 ++ ⟨#[32]⟩ ++ skSay S ++ ⟨#[32]⟩ ++ decA M)) ∧ Below w.heap.size w w' := by
  have hk1 := skSay_sizeTask hS7
  have hk2 := decA_size M (by omega)
  have cS : ∀ d os, Calls Tryd.prog 24 #[.int .i64 (S : Int)] (Sort.grow (redrawn w d) os) fun e w'' => e = .returned (.string (skSay S)) ∧ ∃ p : Regrown, w'' = Sort.grow (redrawn w p.d) p.os := fun d os =>
    Calls.regrown_of (l24SkillText_any hS7)
  have cD : ∀ d os, Calls Tryd.prog 25 #[.int .i64 (M : Int)] (Sort.grow (redrawn w d) os) fun e w'' => e = .returned (.string (decA M)) ∧ ∃ p : Regrown, w'' = Sort.grow (redrawn w p.d) p.os := fun d os =>
    Calls.regrown_of (l01Dec_nat (by omega))
  generalize skSay S = sk at *
  generalize decA M = de at *
  have hz1 : ¬ 9223372036854775807 < a0.size + 1 := by omega
  have hz2 : ¬ 9223372036854775807 < a0.size + 1 + sk.size := by omega
  have hz3 : ¬ 9223372036854775807 < a0.size + 1 + sk.size + 1 := by omega
  have hz4 : ¬ 9223372036854775807 < a0.size + 1 + sk.size + 1 + de.size := by omega
  go_enter Tryd.func19, Tryd.ntmps19
  go_wp2_with fail
  have q0 := cell_regrown h0
  have q1 := cell_regrown h1
  have q2 := cell_regrown h2
  clear h0 h1 h2
  refine wp_region_quiet_below (by kernel_rfl) (by kernel_rfl) ?_
  repeat (go_big_quiet_step (first | with_reducible exact cS _ _ | with_reducible exact cD _ _))
  refine wpQuiet_nil ?_
  intro _ hw'
  obtain ⟨⟨dq, osq⟩, hw''⟩ := hw'
  subst hw''
  have hbS := below_regrown w dq osq
  clear cS cD q0 q1 q2
  go_wp2_with fail
  go_ret
  exact ⟨rfl, hbS⟩
theorem specTaskText_any {a0 : ByteArray} {a1 a2 : Int} {w : World} (hs : a0.size ≤ 1048576) :
    Calls Tryd.prog 10 #[.agg #[.string a0, .int .i64 a1, .int .i64 a2]] w fun e w' => e = .returned (.string (rTaskText ⟨a0, a1, a2⟩)) ∧ Below w.heap.size w w' := by
  obtain ⟨w0, hw0⟩ : ∃ w0, w.alloc (.cells #[.string a0, .int .i64 a1, .int .i64 a2] 33) = w0 := ⟨_, rfl⟩
  have b0 : Below w.heap.size w w0 := by rw [← hw0]; exact (Below.refl _ _).alloc (Nat.le_refl _) _
  have hlt0 : w.heap.size < w0.heap.size := by rw [← hw0]; simp
  have x0 : w0.cell? ⟨w.heap.size, 0, none⟩ = some (.string a0) := by rw [← hw0]; simp
  have x1 : w0.cell? ⟨w.heap.size, 1, none⟩ = some (.int .i64 a1) := by rw [← hw0]; simp
  have x2 : w0.cell? ⟨w.heap.size, 2, none⟩ = some (.int .i64 a2) := by rw [← hw0]; simp
  have HW0 := Lib.hid hw0
  have B0 := Lib.hid b0
  clear hw0 b0
  cases hv : taskB ⟨a0, a1, a2⟩ with
  | false =>
    have Hr : Hid (rTaskText ⟨a0, a1, a2⟩ = ⟨#[]⟩) := Lib.hid (by unfold rTaskText; rw [hv]; rfl)
    have Hv := Lib.hid hv
    clear hv
    go_enter Tryd.func10, Tryd.ntmps10
    go_wp2_with fail
    rw [HW0.out]
    refine (l24Task_any (x := ⟨a0, a1, a2⟩) x0 x1 x2 hs).mono ?_
    rw [Hv.out]
    rintro e w1 ⟨rfl, rfl⟩
    go_wp2_with fail
    go_ret
    exact ⟨ret_strT (by rw [Hr.out]), B0.out⟩
  | true =>
    obtain ⟨hid, S, M, hS, hM, hS7, hM9⟩ := taskB_parts hv
    simp only at hid hS hM
    subst hS
    subst hM
    have Hr : Hid (rTaskText ⟨a0, (S : Int), (M : Int)⟩ = a0 ++ ⟨#[32]⟩ ++ skSay S ++ ⟨#[32]⟩ ++ decA M) := Lib.hid (by unfold rTaskText; rw [hv]; rfl)
    have Hv := Lib.hid hv
    clear hv
    go_enter Tryd.func10, Tryd.ntmps10
    go_wp2_with fail
    rw [HW0.out]
    refine (l24Task_any (x := ⟨a0, (S : Int), (M : Int)⟩) x0 x1 x2 hs).mono ?_
    rw [Hv.out]
    rintro e w1 ⟨rfl, rfl⟩
    go_wp2_with fail
    refine (l24Written_any x0 x1 x2 hid hS7 hM9).mono ?_
    rintro e w2 ⟨rfl, b2⟩
    go_wp2_with fail
    go_ret
    exact ⟨ret_strT (by rw [Hr.out]), B0.out.trans (b2.mono (Nat.le_of_lt hlt0))⟩
end Go.Proofs.YtpakopkmcjdfpaaDoor
