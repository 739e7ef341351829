/- Helpers: KeepsTasks: contracts of both sides. -/
import Derived.Test.YtopomobpkmlapaaHe
import Derived.Lib.QuietBelow
import Derived.BigQuiet
namespace Go.Proofs.Ytopomobpkmlapaa
open Go.RowKit
set_option maxRecDepth 100000
set_option linter.unusedVariables false
set_option linter.unusedSimpArgs false

theorem regrown_same {P : Program} {f : FuncId} {args : Array Value} {w : World} {d : Nat} {os : Array Obj} {v : Value} (h : Calls P f args (Sort.grow (redrawn w d) os) fun e w' => e = .returned v ∧ Sort.grow (redrawn w d) os = w') :
    Calls P f args (Sort.grow (redrawn w d) os) fun e w'' => e = .returned v ∧ ∃ p : Regrown, w'' = Sort.grow (redrawn w p.d) p.os :=
  h.mono fun _ _ ⟨he, hw⟩ => ⟨he, ⟨d, os⟩, hw.symm⟩
theorem tasks_at {l : List TaskR} (h : taskBAll l = true) : ∀ k, k < l.length → 0 ≤ (TaskR.at_ l k).Skills ∧ (TaskR.at_ l k).Skills ≤ 7 := by
  simp only [taskBAll, Bool.and_eq_true, decide_eq_true_eq] at h
  intro k hk
  have := allTo_true.1 h.1 k hk
  simp only [taskBAt, taskB, Bool.and_eq_true, inB_true] at this
  omega
def rKeepsTasks (l : List HelperR) (tl : List TaskR) (zs : List Int) : Bool := (helperBAll l && taskBAll tl) && (allTo (okAt l tl zs) zs.length && decide (zs.length = tl.length))
def helpI (l : List HelperR) (tl : List TaskR) : Int := if helperBAll l && taskBAll tl then 0 else 1
theorem helped_any {A A'' : Option Addr} {n c B nt ct B'' : Nat} {l : List HelperR} {tl : List TaskR} {w : World} (h : Reads w B 3 A n (l.flatMap HelperR.cells)) (hB : B ≤ w.heap.size) (hc : n ≤ c) (hn : n ≤ 1048576) (hF : ∀ x ∈ l, x.Id.size ≤ 1048576)
    (ht : Reads w B'' 3 A'' nt (tl.flatMap TaskR.cells)) (hB'' : B'' ≤ w.heap.size) (hct : nt ≤ ct) (hnt : nt ≤ 1048576) (hFt : ∀ x ∈ tl, x.Id.size ≤ 1048576) :
    Calls Try.prog 69 #[.slice A n c, .slice A'' nt ct] w fun e w' => e = .returned (.int .i64 (helpI l tl)) ∧ Below w.heap.size w w' := by
  have Hr : Hid (helpI l tl = if helperBAll l then (if taskBAll tl then 0 else 1) else 1) := Lib.hid (by unfold helpI; cases helperBAll l <;> cases taskBAll tl <;> rfl)
  go_enter Try.func69, Try.ntmps69
  go_wp2_with fail
  refine (implValidHelpers_any h hB hc hn hF).mono ?_
  rintro e w1 ⟨rfl, b1⟩
  cases v1 : helperBAll l with
  | false =>
    go_wp2_with fail
    go_ret
    exact ⟨ret_int (by rw [Hr.out, v1]; rfl), b1⟩
  | true =>
    have hs1 := b1.size
    go_wp2_with fail
    refine (implValidTasks_any (Reads.below ht b1 hB'') (by omega) hct hnt hFt).mono ?_
    rintro e w2 ⟨rfl, b2⟩
    cases v2 : taskBAll tl with
    | false =>
      go_wp2_with fail
      go_ret
      exact ⟨ret_int (by rw [Hr.out, v1, v2]; rfl), b1.trans (b2.mono hs1)⟩
    | true =>
      go_wp2_with fail
      go_ret
      exact ⟨ret_int (by rw [Hr.out, v1, v2]; rfl), b1.trans (b2.mono hs1)⟩

set_option maxHeartbeats 2000000 in
theorem implKeepsTasks_any {A A' A'' : Option Addr} {n c B nt ct B'' n' c' B' : Nat} {l : List HelperR} {tl : List TaskR} {zs : List Int} {w : World} (h : Reads w B 3 A n (l.flatMap HelperR.cells)) (hB : B ≤ w.heap.size) (hc : n ≤ c) (hn : n ≤ 1048576) (hF : ∀ x ∈ l, x.Id.size ≤ 1048576)
    (ht : Reads w B'' 3 A'' nt (tl.flatMap TaskR.cells)) (hB'' : B'' ≤ w.heap.size) (hct : nt ≤ ct) (hnt : nt ≤ 1048576) (hFt : ∀ x ∈ tl, x.Id.size ≤ 1048576)
    (h' : Ints w B' A' n' zs) (hB' : B' ≤ w.heap.size) (hc' : n' ≤ c') (hn' : n' ≤ 1048576) :
    Calls Try.prog 40 #[.slice A n c, .slice A'' nt ct, .slice A' n' c'] w fun e w' => e = .returned (.bool (rKeepsTasks l tl zs)) ∧ Below w.heap.size w w' := by
  have HL := Lib.hid (HelperR.count h)
  have HT := Lib.hid (TaskR.count ht)
  have HL' := Lib.hid h'.len
  have Hr0 : Hid (rKeepsTasks l tl zs = ((helperBAll l && taskBAll tl) && (allTo (okAt l tl zs) n' && decide (n' = nt)))) := Lib.hid (by rw [rKeepsTasks, HL'.out, HT.out])
  have hqn : IntKind.i64.wrap ((n : Int) - 1) = (n : Int) - 1 := IntWalk.i64_in _ (by omega)
  go_enter Try.func40, Try.ntmps40
  go_wp2_with fail
  refine (helped_any h hB hc hn hF ht hB'' hct hnt hFt).mono ?_
  rintro e w1 ⟨rfl, b1⟩
  cases va : (helperBAll l && taskBAll tl) with
  | false =>
    have Hr : Hid (rKeepsTasks l tl zs = false) := Lib.hid (by rw [Hr0.out, va]; rfl)
    rw [show helpI l tl = 1 by rw [helpI, va]; rfl]
    go_wp2_with fail
    go_ret
    exact ⟨ret_bool (by rw [Hr.out]), b1⟩
  | true =>
  have Hva := Lib.hid va
  rw [show helpI l tl = 0 by rw [helpI, va]; rfl]
  rw [Bool.and_eq_true] at va
  have Hsk := Lib.hid (helpers_at va.1)
  have Htk := Lib.hid (tasks_at va.2)
  clear va
  by_cases hl : n' = nt
  · have Hr : Hid (rKeepsTasks l tl zs = allTo (okAt l tl zs) n') := Lib.hid (by rw [Hr0.out, Hva.out, decide_eq_true hl, Bool.and_true, Bool.true_and])
    have d1 : ((n' : Int) != (nt : Int)) = false := by simp; omega
    have Hl := Lib.hid hl
    clear hl
    go_wp2_with fail
    have hl := Hl.out
    go_loopg [22] n' (fun gk i wr => ∃ k : Nat, k ≤ n' ∧ gk + k = n' ∧ i = .int .i64 k ∧ Below w.heap.size w wr ∧ allTo (okAt l tl zs) k = true)
    case atStart => exact ⟨0, Nat.zero_le _, rfl, rfl, b1, rfl⟩
    case round =>
      clear b1
      obtain ⟨k, hk, hgk, rfl, hb, hall⟩ := hrel
      have Hgk := Lib.hid hgk
      have Hall := Lib.hid hall
      have hbs := hb.size
      clear hgk hall
      by_cases hlt : k < n'
      · obtain ⟨ad', rfl, hbl', hcz⟩ := Ints.at_ (Reads.below h' hb hB') hlt
        have hltt : k < nt := by omega
        obtain ⟨adt, rfl, hblt, q0, q1, q2⟩ := TaskR.rd (Reads.below ht hb hB'') hltt
        have hhd := headI (Reads.below h' hb hB') hk
        have Hok : Hid (okAt l tl zs k = (inB (nth zs k) 0 ((n : Int) - 1) && (!((zs.take k).any (fun y => nth zs k == y)) && canB (HelperR.at_ l (nth zs k).toNat) (TaskR.at_ tl k)))) := Lib.hid (by rw [okAt, HL.out])
        have hts := Htk.out k (by rw [HT.out]; exact hltt)
        generalize nth zs k = z at *
        have hk0 : (0 : Int) ≤ (k : Int) := by omega
        have hk1 : (k : Int) < (n' : Int) := by omega
        have hk2 : (k : Int) < (nt : Int) := by omega
        have hkc : (k : Int) ≤ (c' : Int) := by omega
        have hqk : IntKind.i64.wrap ((k : Int) + 1) = (k : Int) + 1 := IntWalk.i64_in _ (by omega)
        clear hl
        have cS : ∀ d os, Calls Try.prog 66 #[.slice A n c] (Sort.grow (redrawn wr d) os) fun e w'' => e = .returned (.int .i64 (n : Int)) ∧ ∃ p : Regrown, w'' = Sort.grow (redrawn wr p.d) p.os := fun d os => regrown_same (size_Helper_any _ _ _ _ hn)
        cases v1 : inB z 0 ((n : Int) - 1) with
        | false =>
          have cW : ∀ d os, Calls Try.prog 65 #[.int .i64 z, .int .i64 0, .int .i64 ((n : Int) - 1)] (Sort.grow (redrawn wr d) os) fun e w'' => e = .returned (.bool false) ∧ ∃ p : Regrown, w'' = Sort.grow (redrawn wr p.d) p.os := fun d os => by
            have := regrown_same (within_any z 0 ((n : Int) - 1) (Sort.grow (redrawn wr d) os)); rw [v1] at this; exact this
          have Ho : Hid (okAt l tl zs k = false) := Lib.hid (by rw [Hok.out, v1]; rfl)
          go_wp2_with fail
          refine wp_region_quiet_below (by kernel_rfl) (by kernel_rfl) ?_
          repeat (go_big_quiet_step (first | with_reducible exact cS _ _ | with_reducible exact cW _ _))
          refine wpQuiet_nil ?_
          intro _ hw'
          obtain ⟨⟨dq, osq⟩, hw''⟩ := hw'
          subst hw''
          have hbS := below_regrown wr dq osq
          have hb3 := hb.trans (hbS.mono hbs)
          clear cS cW
          generalize Sort.grow (redrawn wr dq) osq = w3 at *
          go_wp2_with fail
          go_ret
          exact ⟨ret_bool (by rw [Hr.out, allTo_false hlt Ho.out]), hb3⟩
        | true =>
        have hz := inB_true.1 v1
        have cW : ∀ d os, Calls Try.prog 65 #[.int .i64 z, .int .i64 0, .int .i64 ((n : Int) - 1)] (Sort.grow (redrawn wr d) os) fun e w'' => e = .returned (.bool true) ∧ ∃ p : Regrown, w'' = Sort.grow (redrawn wr p.d) p.os := fun d os => by
          have := regrown_same (within_any z 0 ((n : Int) - 1) (Sort.grow (redrawn wr d) os)); rw [v1] at this; exact this
        cases v2 : (zs.take k).any (fun y => z == y) with
        | true =>
          have cC : ∀ d os, Calls Try.prog 67 #[.slice (some ad') k c', .int .i64 z] (Sort.grow (redrawn wr d) os) fun e w'' => e = .returned (.bool true) ∧ ∃ p : Regrown, w'' = Sort.grow (redrawn wr p.d) p.os := fun d os => by
            have := regrown_same (contains_any (some ad') k c' _ (zs.take k) z (Sort.grow (redrawn wr d) os) (Reads.below hhd (below_regrown wr d os) (by omega)) (by omega)); rw [v2] at this; exact this
          have Ho : Hid (okAt l tl zs k = false) := Lib.hid (by rw [Hok.out, v1, v2]; rfl)
          go_wp2_with fail
          refine wp_region_quiet_below (by kernel_rfl) (by kernel_rfl) ?_
          repeat (go_big_quiet_step (first | with_reducible exact cS _ _ | with_reducible exact cW _ _ | with_reducible exact cC _ _))
          refine wpQuiet_nil ?_
          intro _ hw'
          obtain ⟨⟨dq, osq⟩, hw''⟩ := hw'
          subst hw''
          have hbS := below_regrown wr dq osq
          have hb3 := hb.trans (hbS.mono hbs)
          clear cS cW cC
          generalize Sort.grow (redrawn wr dq) osq = w3 at *
          go_wp2_with fail
          go_ret
          exact ⟨ret_bool (by rw [Hr.out, allTo_false hlt Ho.out]), hb3⟩
        | false =>
        have cC : ∀ d os, Calls Try.prog 67 #[.slice (some ad') k c', .int .i64 z] (Sort.grow (redrawn wr d) os) fun e w'' => e = .returned (.bool false) ∧ ∃ p : Regrown, w'' = Sort.grow (redrawn wr p.d) p.os := fun d os => by
          have := regrown_same (contains_any (some ad') k c' _ (zs.take k) z (Sort.grow (redrawn wr d) os) (Reads.below hhd (below_regrown wr d os) (by omega)) (by omega)); rw [v2] at this; exact this
        obtain ⟨Z, rfl⟩ := Int.eq_ofNat_of_zero_le hz.1
        have hZ : Z < n := by omega
        have hZ0 : (0 : Int) ≤ (Z : Int) := by omega
        have hZ1 : (Z : Int) < (n : Int) := by omega
        have hZ2 : (Z : Int).toNat = Z := by omega
        rw [hZ2] at Hok
        have hxs := Hsk.out Z (by rw [HL.out]; exact hZ)
        obtain ⟨ad, rfl, hbl, p0, p1, p2⟩ := HelperR.rd (Reads.below h hb hB) hZ
        have u0 := cell_regrown p0
        have u1 := cell_regrown p1
        have u2 := cell_regrown p2
        have x0 := cell_regrown q0
        have x1 := cell_regrown q1
        have x2 := cell_regrown q2
        clear p0 p1 p2 q0 q1 q2
        cases v3 : canB (HelperR.at_ l Z) (TaskR.at_ tl k) with
        | false =>
          have cN : ∀ d os, Calls Try.prog 70 #[.agg #[.string (HelperR.at_ l Z).Id, .int .i64 (HelperR.at_ l Z).Skills, .int .i64 (HelperR.at_ l Z).Minutes], .agg #[.string (TaskR.at_ tl k).Id, .int .i64 (TaskR.at_ tl k).Skills, .int .i64 (TaskR.at_ tl k).Until]] (Sort.grow (redrawn wr d) os) fun e w'' => e = .returned (.bool false) ∧ ∃ p : Regrown, w'' = Sort.grow (redrawn wr p.d) p.os := fun d os => by
            have := can_any (x := HelperR.at_ l Z) (t := TaskR.at_ tl k) (w := (Sort.grow (redrawn wr d) os)) hxs hts; rw [v3] at this; exact Calls.regrown_of this
          have Ho : Hid (okAt l tl zs k = false) := Lib.hid (by rw [Hok.out, v1, v2, v3]; rfl)
          go_wp2_with fail
          refine wp_region_quiet_below (by kernel_rfl) (by kernel_rfl) ?_
          repeat (go_big_quiet_step (first | with_reducible exact cS _ _ | with_reducible exact cW _ _ | with_reducible exact cC _ _ | with_reducible exact cN _ _))
          refine wpQuiet_nil ?_
          intro _ hw'
          obtain ⟨⟨dq, osq⟩, hw''⟩ := hw'
          subst hw''
          have hbS := below_regrown wr dq osq
          have hb3 := hb.trans (hbS.mono hbs)
          clear cS cW cC cN
          generalize Sort.grow (redrawn wr dq) osq = w3 at *
          go_wp2_with fail
          go_ret
          exact ⟨ret_bool (by rw [Hr.out, allTo_false hlt Ho.out]), hb3⟩
        | true =>
          have cN : ∀ d os, Calls Try.prog 70 #[.agg #[.string (HelperR.at_ l Z).Id, .int .i64 (HelperR.at_ l Z).Skills, .int .i64 (HelperR.at_ l Z).Minutes], .agg #[.string (TaskR.at_ tl k).Id, .int .i64 (TaskR.at_ tl k).Skills, .int .i64 (TaskR.at_ tl k).Until]] (Sort.grow (redrawn wr d) os) fun e w'' => e = .returned (.bool true) ∧ ∃ p : Regrown, w'' = Sort.grow (redrawn wr p.d) p.os := fun d os => by
            have := can_any (x := HelperR.at_ l Z) (t := TaskR.at_ tl k) (w := (Sort.grow (redrawn wr d) os)) hxs hts; rw [v3] at this; exact Calls.regrown_of this
          have Ho : Hid (okAt l tl zs k = true) := Lib.hid (by rw [Hok.out, v1, v2, v3]; rfl)
          go_wp2_with fail
          refine wp_region_quiet_below (by kernel_rfl) (by kernel_rfl) ?_
          repeat (go_big_quiet_step (first | with_reducible exact cS _ _ | with_reducible exact cW _ _ | with_reducible exact cC _ _ | with_reducible exact cN _ _))
          refine wpQuiet_nil ?_
          intro _ hw'
          obtain ⟨⟨dq, osq⟩, hw''⟩ := hw'
          subst hw''
          have hbS := below_regrown wr dq osq
          have hb3 := hb.trans (hbS.mono hbs)
          clear cS cW cC cN
          generalize Sort.grow (redrawn wr dq) osq = w3 at *
          go_wp2_with fail
          have hgk := Hgk.out
          go_roundg (gk - 1)
          case rel => exact ⟨k + 1, by omega, by omega, by go_num, hb3, by rw [allTo_succ, Hall.out, Ho.out]; rfl⟩
          case measure => omega
      · have hke : k = n' := by omega
        have hd : ¬ (k : Int) < (n' : Int) := by omega
        have Hke := Lib.hid hke
        clear hke
        go_wp2_with fail
        go_ret
        exact ⟨ret_bool (by rw [Hr.out, ← Hke.out, Hall.out]), hb⟩
  · have Hr : Hid (rKeepsTasks l tl zs = false) := Lib.hid (by rw [Hr0.out, decide_eq_false hl, Bool.and_false, Bool.and_false])
    have d1 : ((n' : Int) != (nt : Int)) = true := by simp; omega
    clear hl
    go_wp2_with fail
    go_ret
    exact ⟨ret_bool (by rw [Hr.out]), b1⟩

set_option maxHeartbeats 2000000 in
theorem specKeepsTasks_any {A A' A'' : Option Addr} {n c B nt ct B'' n' c' B' : Nat} {l : List HelperR} {tl : List TaskR} {zs : List Int} {w : World} (h : Reads w B 3 A n (l.flatMap HelperR.cells)) (hB : B ≤ w.heap.size) (hc : n ≤ c) (hn : n ≤ 1048576) (hF : ∀ x ∈ l, x.Id.size ≤ 1048576)
    (ht : Reads w B'' 3 A'' nt (tl.flatMap TaskR.cells)) (hB'' : B'' ≤ w.heap.size) (hct : nt ≤ ct) (hnt : nt ≤ 1048576) (hFt : ∀ x ∈ tl, x.Id.size ≤ 1048576)
    (h' : Ints w B' A' n' zs) (hB' : B' ≤ w.heap.size) (hc' : n' ≤ c') (hn' : n' ≤ 1048576) :
    Calls Try.prog 39 #[.slice A n c, .slice A'' nt ct, .slice A' n' c'] w fun e w' => e = .returned (.bool (rKeepsTasks l tl zs)) ∧ Below w.heap.size w w' := by
  have HT := Lib.hid (TaskR.count ht)
  have HL' := Lib.hid h'.len
  have Hr : Hid (rKeepsTasks l tl zs = ((helperBAll l && taskBAll tl) && (allTo (okAt l tl zs) n' && decide (n' = nt)))) := Lib.hid (by rw [rKeepsTasks, HL'.out, HT.out])
  go_enter Try.func39, Try.ntmps39
  go_wp2_with fail
  refine (l24Helpers_any h hB hn hF).mono ?_
  rintro e w1 ⟨rfl, b1⟩
  have hs1 := b1.size
  cases v1 : helperBAll l with
  | false =>
    have V1 := Lib.hid v1
    go_wp2_with fail
    go_ret
    exact ⟨ret_bool (by rw [Hr.out, V1.out]; rfl), b1⟩
  | true =>
  have V1 := Lib.hid v1
  clear v1
  go_wp2_with fail
  refine (l24Tasks_any (Reads.below ht b1 hB'') (by omega) hnt hFt).mono ?_
  rintro e w2 ⟨rfl, b2⟩
  have b12 := b1.trans (b2.mono hs1)
  have hs2 := b12.size
  cases v2 : taskBAll tl with
  | false =>
    have V2 := Lib.hid v2
    go_wp2_with fail
    go_ret
    exact ⟨ret_bool (by rw [Hr.out, V1.out, V2.out]; rfl), b12⟩
  | true =>
  have V2 := Lib.hid v2
  clear v2
  go_wp2_with fail
  refine (l24Fills_any (Reads.below h b12 hB) (by omega) hn (Reads.below ht b12 hB'') (by omega) hnt (Reads.below h' b12 hB') (by omega) hc' hn').mono ?_
  rintro e w3 ⟨rfl, b3⟩
  generalize (allTo (okAt l tl zs) n' && decide (n' = nt)) = bb at *
  go_wp2_with fail
  go_ret
  exact ⟨ret_bool (by rw [Hr.out, V1.out, V2.out]; simp), b12.trans (b3.mono hs2)⟩
end Go.Proofs.Ytopomobpkmlapaa
