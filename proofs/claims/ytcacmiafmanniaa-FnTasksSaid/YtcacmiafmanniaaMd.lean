/- Helpers: MostFilled: both sides count the same. -/
import Derived.Test.YtcacmiafmanniaaMc
namespace Go.Proofs.Ytcacmiafmanniaa
open Go.RowKit
set_option maxRecDepth 100000
set_option linter.unusedVariables false
set_option linter.unusedSimpArgs false

theorem tAt_get {tl : List TaskR} {i : Nat} (hi : i < tl.length) : tl[i]? = some (TaskR.at_ tl i) := by
  rw [List.getElem?_eq_getElem hi]; simp [TaskR.at_, List.getD, List.getElem?_eq_getElem hi]
theorem cOf_iff (l : List HelperR) (tl : List TaskR) (k i : Nat) (hi : i < tl.length) : cOf (csH l) tl k i = true ↔ k < l.length ∧ cB l tl k i = true := by
  unfold cOf
  rw [tAt_get hi]
  simp only [List.contains_iff_mem, csH_mem, cB, decide_eq_true hi, Bool.and_true]
theorem seen0_neg {n h : Nat} {wo : Int} (hw : wo < 0) : (seen0 n wo).getD h true = false ↔ h < n := by
  unfold seen0
  rw [if_neg (by omega)]
  by_cases hh : h < n <;> simp [List.getD, List.getElem?_replicate, hh]
theorem seen0_pos {n h W : Nat} (hW : W < n) : (seen0 n (W : Int)).getD h true = false ↔ h < n ∧ h ≠ W := by
  unfold seen0
  rw [if_pos (by omega), getD_set _ _ _ _ _ (by simpa using hW)]
  by_cases e : h = W
  · subst e; simp
  · rw [if_neg (by simpa using e)]
    by_cases hh : h < n <;> simp [List.getD, List.getElem?_replicate, hh, e]
theorem most_opt (l : List HelperR) (tl : List TaskR) : Opt (cOf (csH l) tl) (fun h => (0 : Nat).testBit h = false) tl.length (kuhn (cB l tl) l.length (seen0 l.length (-1)) tl.length).2 := by
  refine (kuhn_opt (cB l tl) l.length (seen0 l.length (-1)) (seen0_len _ _) tl.length).congr fun k i hi => ?_
  rw [cOf_iff l tl k i hi, seen0_neg (by omega)]
  simp only [Nat.zero_testBit, true_and, and_assoc, and_self_left]
theorem most_eq (l : List HelperR) (tl : List TaskR) : (kuhn (cB l tl) l.length (seen0 l.length (-1)) tl.length).2 = mfill (csH l) tl 0 :=
  (most_opt l tl).same (mfill_opt (csH l) tl 0)
def rMostFilled (l : List HelperR) (tl : List TaskR) : Int × Int := if helperBAll l && taskBAll tl then ((mfill (csH l) tl 0 : Nat), 0) else (0, 1)
theorem helperB_len {l : List HelperR} (h : helperBAll l = true) : l.length ≤ 10 := by
  simp only [helperBAll, Bool.and_eq_true, decide_eq_true_eq] at h; exact h.2
theorem taskB_len {l : List TaskR} (h : taskBAll l = true) : l.length ≤ 8 := by
  simp only [taskBAll, Bool.and_eq_true, decide_eq_true_eq] at h; exact h.2

set_option maxHeartbeats 1000000 in
theorem implMostFilled_any {A A'' : Option Addr} {n c B nt ct B'' : Nat} {l : List HelperR} {tl : List TaskR} {w : World} (h : Reads w B 3 A n (l.flatMap HelperR.cells)) (hB : B ≤ w.heap.size) (hc : n ≤ c) (hn : n ≤ 1048576) (hF : ∀ x ∈ l, x.Id.size ≤ 1048576)
    (ht : Reads w B'' 3 A'' nt (tl.flatMap TaskR.cells)) (hB'' : B'' ≤ w.heap.size) (hct : nt ≤ ct) (hnt : nt ≤ 1048576) (hFt : ∀ x ∈ tl, x.Id.size ≤ 1048576) :
    Calls Try.prog 11 #[.slice A n c, .slice A'' nt ct] w fun e w' => e = .returned (.tuple #[.int .i64 (rMostFilled l tl).1, .int .i64 (rMostFilled l tl).2]) ∧ Below w.heap.size w w' := by
  have HL := Lib.hid (HelperR.count h)
  cases hv : helperBAll l && taskBAll tl with
  | false =>
    have Hh : Hid (helpI l tl = 1) := Lib.hid (by unfold helpI; rw [hv]; rfl)
    have Hr : Hid (rMostFilled l tl = (0, 1)) := Lib.hid (by unfold rMostFilled; rw [hv]; rfl)
    clear hv
    go_enter Try.func11, Try.ntmps11
    go_wp2_with fail
    refine (helped_any h hB hc hn hF ht hB'' hct hnt hFt).mono ?_
    rintro e w1 ⟨rfl, b1⟩
    rw [Hh.out]
    go_wp2_with fail
    go_ret2
    exact ⟨by rw [Hr.out]; rfl, b1⟩
  | true =>
    have Hh : Hid (helpI l tl = 0) := Lib.hid (by unfold helpI; rw [hv]; rfl)
    have Hr : Hid (rMostFilled l tl = (((mfill (csH l) tl 0 : Nat) : Int), 0)) := Lib.hid (by unfold rMostFilled; rw [hv]; rfl)
    rw [Bool.and_eq_true] at hv
    have hn10 : n ≤ 10 := by have := helperB_len hv.1; rw [HL.out] at this; exact this
    have Hs := Lib.hid (helpers_at hv.1)
    have Ht := Lib.hid (tasks_at hv.2)
    clear hv
    go_enter Try.func11, Try.ntmps11
    go_wp2_with fail
    refine (helped_any h hB hc hn hF ht hB'' hct hnt hFt).mono ?_
    rintro e w1 ⟨rfl, b1⟩
    rw [Hh.out]
    have hs1 := b1.size
    go_wp2_with fail
    refine (mostFilled_any tl (used := 0) (h.below b1 hB) (by omega) hn10 Hs.out (ht.below b1 hB'') (by omega) hct hnt Ht.out (by omega)).mono ?_
    rintro e w2 ⟨rfl, b2⟩
    go_wp2_with fail
    go_ret2
    exact ⟨by rw [Hr.out]; rfl, b1.trans (b2.mono hs1)⟩
set_option maxHeartbeats 1000000 in
theorem specMostFilled_any {A A'' : Option Addr} {n c B nt ct B'' : Nat} {l : List HelperR} {tl : List TaskR} {w : World} (h : Reads w B 3 A n (l.flatMap HelperR.cells)) (hB : B ≤ w.heap.size) (hc : n ≤ c) (hn : n ≤ 1048576) (hF : ∀ x ∈ l, x.Id.size ≤ 1048576)
    (ht : Reads w B'' 3 A'' nt (tl.flatMap TaskR.cells)) (hB'' : B'' ≤ w.heap.size) (hct : nt ≤ ct) (hnt : nt ≤ 1048576) (hFt : ∀ x ∈ tl, x.Id.size ≤ 1048576) :
    Calls Try.prog 13 #[.slice A n c, .slice A'' nt ct] w fun e w' => e = .returned (.tuple #[.int .i64 (rMostFilled l tl).1, .int .i64 (rMostFilled l tl).2]) ∧ Below w.heap.size w w' := by
  have HL := Lib.hid (HelperR.count h)
  have HT := Lib.hid (TaskR.count ht)
  go_enter Try.func13, Try.ntmps13
  go_wp2_with fail
  refine (l24Helpers_any h hB hn hF).mono ?_
  rintro e w1 ⟨rfl, b1⟩
  have hs1 := b1.size
  cases v1 : helperBAll l with
  | false =>
    have Hr : Hid (rMostFilled l tl = (0, 1)) := Lib.hid (by unfold rMostFilled; rw [v1]; rfl)
    clear v1
    go_wp2_with fail
    go_ret2
    exact ⟨by rw [Hr.out]; rfl, b1⟩
  | true =>
  have V1 := Lib.hid v1
  clear v1
  go_wp2_with fail
  refine (l24Tasks_any (Reads.below ht b1 hB'') (by omega) hnt hFt).mono ?_
  rintro e w2 ⟨rfl, b2⟩
  have b12 := b1.trans (b2.mono hs1)
  have hs2 := b12.size
  cases v2 : taskBAll tl with
  | false =>
    have Hr : Hid (rMostFilled l tl = (0, 1)) := Lib.hid (by unfold rMostFilled; rw [V1.out, v2]; rfl)
    clear v2
    go_wp2_with fail
    go_ret2
    exact ⟨by rw [Hr.out]; rfl, b12⟩
  | true =>
    have Hr : Hid (rMostFilled l tl = ((((kuhn (cB l tl) n (seen0 n (-1)) nt).2 : Nat) : Int), 0)) := Lib.hid (by unfold rMostFilled; rw [V1.out, v2, ← HL.out, ← HT.out, most_eq]; rfl)
    clear v2
    go_wp2_with fail
    refine (most_any (wo := -1) (Reads.below h b12 hB) (by omega) hn (Reads.below ht b12 hB'') (by omega) hnt (.inl (by omega))).mono ?_
    rintro e w3 ⟨rfl, b3⟩
    go_wp2_with fail
    go_ret2
    exact ⟨by rw [Hr.out]; rfl, b12.trans (b3.mono hs2)⟩
end Go.Proofs.Ytcacmiafmanniaa
