/- Helpers: KeepsTasks: contracts of both sides. -/
import Derived.Test.YtcacmiafmanniaaHe
import Derived.Lib.QuietBelow
import Derived.BigQuiet
namespace Go.Proofs.Ytcacmiafmanniaa
open Go.RowKit
set_option maxRecDepth 100000
set_option linter.unusedVariables false
set_option linter.unusedSimpArgs false

theorem regrown_same {P : Program} {f : FuncId} {args : Array Value} {w : World} {d : Nat} {os : Array Obj} {v : Value} (h : Calls P f args (Sort.grow (redrawn w d) os) fun e w' => e = .returned v ∧ Sort.grow (redrawn w d) os = w') :
    Calls P f args (Sort.grow (redrawn w d) os) fun e w'' => e = .returned v ∧ ∃ p : Regrown, w'' = Sort.grow (redrawn w p.d) p.os :=
  h.mono fun _ _ ⟨he, hw⟩ => ⟨he, ⟨d, os⟩, hw.symm⟩
theorem tasks_at {l : List TaskR} (h : taskBAll l = true) : ∀ k, k < l.length → 0 ≤ (TaskR.at_ l k).Skills ∧ (TaskR.at_ l k).Skills ≤ 7 := by
  simp only [taskBAll, Bool.and_eq_true, decide_eq_true_eq] at h
  intro k hk
  have := allTo_true.1 h.1 k hk
  simp only [taskBAt, taskB, Bool.and_eq_true, inB_true] at this
  omega
def rKeepsTasks (l : List HelperR) (tl : List TaskR) (zs : List Int) : Bool := (helperBAll l && taskBAll tl) && (allTo (okAt l tl zs) zs.length && decide (zs.length = tl.length))
def helpI (l : List HelperR) (tl : List TaskR) : Int := if helperBAll l && taskBAll tl then 0 else 1
theorem helped_any {A A'' : Option Addr} {n c B nt ct B'' : Nat} {l : List HelperR} {tl : List TaskR} {w : World} (h : Reads w B 3 A n (l.flatMap HelperR.cells)) (hB : B ≤ w.heap.size) (hc : n ≤ c) (hn : n ≤ 1048576) (hF : ∀ x ∈ l, x.Id.size ≤ 1048576)
    (ht : Reads w B'' 3 A'' nt (tl.flatMap TaskR.cells)) (hB'' : B'' ≤ w.heap.size) (hct : nt ≤ ct) (hnt : nt ≤ 1048576) (hFt : ∀ x ∈ tl, x.Id.size ≤ 1048576) :
    Calls Try.prog 18 #[.slice A n c, .slice A'' nt ct] w fun e w' => e = .returned (.int .i64 (helpI l tl)) ∧ Below w.heap.size w w' := by
  have Hr : Hid (helpI l tl = if helperBAll l then (if taskBAll tl then 0 else 1) else 1) := Lib.hid (by unfold helpI; cases helperBAll l <;> cases taskBAll tl <;> rfl)
  go_enter Try.func18, Try.ntmps18
  go_wp2_with fail
  refine (implValidHelpers_any h hB hc hn hF).mono ?_
  rintro e w1 ⟨rfl, b1⟩
  cases v1 : helperBAll l with
  | false =>
    go_wp2_with fail
    go_ret
    exact ⟨ret_int (by rw [Hr.out, v1]; rfl), b1⟩
  | true =>
    have hs1 := b1.size
    go_wp2_with fail
    refine (implValidTasks_any (Reads.below ht b1 hB'') (by omega) hct hnt hFt).mono ?_
    rintro e w2 ⟨rfl, b2⟩
    cases v2 : taskBAll tl with
    | false =>
      go_wp2_with fail
      go_ret
      exact ⟨ret_int (by rw [Hr.out, v1, v2]; rfl), b1.trans (b2.mono hs1)⟩
    | true =>
      go_wp2_with fail
      go_ret
      exact ⟨ret_int (by rw [Hr.out, v1, v2]; rfl), b1.trans (b2.mono hs1)⟩

set_option maxHeartbeats 2000000 in
theorem specKeepsTasks_any {A A' A'' : Option Addr} {n c B nt ct B'' n' c' B' : Nat} {l : List HelperR} {tl : List TaskR} {zs : List Int} {w : World} (h : Reads w B 3 A n (l.flatMap HelperR.cells)) (hB : B ≤ w.heap.size) (hc : n ≤ c) (hn : n ≤ 1048576) (hF : ∀ x ∈ l, x.Id.size ≤ 1048576)
    (ht : Reads w B'' 3 A'' nt (tl.flatMap TaskR.cells)) (hB'' : B'' ≤ w.heap.size) (hct : nt ≤ ct) (hnt : nt ≤ 1048576) (hFt : ∀ x ∈ tl, x.Id.size ≤ 1048576)
    (h' : Ints w B' A' n' zs) (hB' : B' ≤ w.heap.size) (hc' : n' ≤ c') (hn' : n' ≤ 1048576) :
    Calls Try.prog 8 #[.slice A n c, .slice A'' nt ct, .slice A' n' c'] w fun e w' => e = .returned (.bool (rKeepsTasks l tl zs)) ∧ Below w.heap.size w w' := by
  have HT := Lib.hid (TaskR.count ht)
  have HL' := Lib.hid h'.len
  have Hr : Hid (rKeepsTasks l tl zs = ((helperBAll l && taskBAll tl) && (allTo (okAt l tl zs) n' && decide (n' = nt)))) := Lib.hid (by rw [rKeepsTasks, HL'.out, HT.out])
  go_enter Try.func8, Try.ntmps8
  go_wp2_with fail
  refine (l24Helpers_any h hB hn hF).mono ?_
  rintro e w1 ⟨rfl, b1⟩
  have hs1 := b1.size
  cases v1 : helperBAll l with
  | false =>
    have V1 := Lib.hid v1
    go_wp2_with fail
    go_ret
    exact ⟨ret_bool (by rw [Hr.out, V1.out]; rfl), b1⟩
  | true =>
  have V1 := Lib.hid v1
  clear v1
  go_wp2_with fail
  refine (l24Tasks_any (Reads.below ht b1 hB'') (by omega) hnt hFt).mono ?_
  rintro e w2 ⟨rfl, b2⟩
  have b12 := b1.trans (b2.mono hs1)
  have hs2 := b12.size
  cases v2 : taskBAll tl with
  | false =>
    have V2 := Lib.hid v2
    go_wp2_with fail
    go_ret
    exact ⟨ret_bool (by rw [Hr.out, V1.out, V2.out]; rfl), b12⟩
  | true =>
  have V2 := Lib.hid v2
  clear v2
  go_wp2_with fail
  refine (l24Fills_any (Reads.below h b12 hB) (by omega) hn (Reads.below ht b12 hB'') (by omega) hnt (Reads.below h' b12 hB') (by omega) hc' hn').mono ?_
  rintro e w3 ⟨rfl, b3⟩
  generalize (allTo (okAt l tl zs) n' && decide (n' = nt)) = bb at *
  go_wp2_with fail
  go_ret
  exact ⟨ret_bool (by rw [Hr.out, V1.out, V2.out]; simp), b12.trans (b3.mono hs2)⟩
end Go.Proofs.Ytcacmiafmanniaa
