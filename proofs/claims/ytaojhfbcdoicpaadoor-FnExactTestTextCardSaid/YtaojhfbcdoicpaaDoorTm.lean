/- Rope tests: TestText: contracts of both sides. -/
import Derived.Test.YtaojhfbcdoicpaaDoorTf
import Derived.Test.YtaojhfbcdoicpaaDoorTl
import Derived.Test.YtaojhfbcdoicpaaDoorRT
import Derived.Deep.RegionHeld3
import Derived.BigQuiet
namespace Go.Proofs.YtaojhfbcdoicpaaDoor
open Go.RowKit
set_option maxRecDepth 100000
set_option linter.unusedVariables false
set_option linter.unusedSimpArgs false
attribute [local irreducible] mE ml

noncomputable def rTestText (x : TestR) : ByteArray := if testB x then dateT x.Day.toNat ++ ⟨#[32]⟩ ++ jn 44 [x.Broken.toNat, x.Worn.toNat] else ⟨#[]⟩
theorem testB_parts {x : TestR} (h : testB x = true) : ∃ a b c : Nat, x.Day = (a : Int) ∧ x.Broken = (b : Int) ∧ x.Worn = (c : Int) ∧ a ≤ 36524 ∧ b ≤ 1000000000000 ∧ c ≤ 1000000000000 := by
  obtain ⟨h1, h2, h3⟩ := testB_true.1 h
  exact ⟨x.Day.toNat, x.Broken.toNat, x.Worn.toNat, by omega, by omega, by omega, by omega, by omega, by omega⟩
theorem two_ints (w : World) (b c : Nat) : Ints (w.alloc (.cells #[.int .i64 (b : Int), .int .i64 (c : Int)] 2)) (w.heap.size + 1) (some ⟨w.heap.size, 0, none⟩) 2 (ciT [b, c]) :=
  ⟨by simp [ciT], fun _ => ⟨⟨w.heap.size, 0, none⟩, rfl, Nat.lt_succ_self _, fun j u hu => by rw [Addr.add_lit, Nat.zero_add]; simpa [ciT] using hu⟩⟩
theorem le2 {b c : Nat} (hb : b ≤ 1000000000000) (hc : c ≤ 1000000000000) : ∀ v ∈ [b, c], v ≤ 1000000000000 := by
  intro v hv
  simp only [List.mem_cons, List.not_mem_nil, or_false] at hv
  rcases hv with rfl | rfl <;> assumption
theorem jn2_size {b c : Nat} (h : ∀ v ∈ [b, c], v ≤ 1000000000000) : (jn 44 [b, c]).size ≤ 42 := jn_size 44 (vs := [b, c]) (fun v hv => by have := h v hv; omega) 2 (Nat.le_refl _)
theorem dateT_size {D : Nat} (h : ∃ i, IsD D i) (hD : D ≤ 36524) : (dateT D).size ≤ 40 := by
  obtain ⟨i, hi⟩ := h
  rw [dateT_eq hi]; exact dateS_size hi hD
theorem isD_ex : ∀ n D, D < mE n → ∃ i, IsD D i := by
  intro n
  induction n with
  | zero => intro D h; rw [mE_zero] at h; omega
  | succ n ih =>
    intro D h
    by_cases h2 : D < mE n
    · exact ih D h2
    · exact ⟨n, by omega, h⟩
theorem pre2 (w : World) (o : Obj) : w.heap.size + 1 ≤ (w.alloc o).heap.size := by simp

set_option maxHeartbeats 2000000 in
theorem implTestText_any {a0 a1 a2 : Int} {w : World} (ht : TabOk w) :
    Calls Tryd.prog 12 #[.agg #[.int .i64 a0, .int .i64 a1, .int .i64 a2]] w fun e w' => e = .returned (.string (rTestText ⟨a0, a1, a2⟩)) ∧ Below w.heap.size w w' := by
  obtain ⟨w0, hw0⟩ : ∃ w0, w.alloc (.cells #[.int .i64 a0, .int .i64 a1, .int .i64 a2] 32) = w0 := ⟨_, rfl⟩
  have b0 : Below w.heap.size w w0 := by rw [← hw0]; exact (Below.refl _ _).alloc (Nat.le_refl _) _
  have hbx : HC w0 w.heap.size [.int .i64 a0, .int .i64 a1, .int .i64 a2] := by rw [← hw0]; exact ⟨fun j u hu => by simpa using hu, fun j => by simp, by simp⟩
  have x0 : w0.cell? ⟨w.heap.size, 0, none⟩ = some (.int .i64 a0) := hbx.at_ 0 _ rfl
  have x1 : w0.cell? ⟨w.heap.size, 1, none⟩ = some (.int .i64 a1) := hbx.at_ 1 _ rfl
  have x2 : w0.cell? ⟨w.heap.size, 2, none⟩ = some (.int .i64 a2) := hbx.at_ 2 _ rfl
  have HW0 := Lib.hid hw0
  have B0 := Lib.hid b0
  have Hbx := Lib.hid hbx
  have hlt0 := hbx.lt
  clear hw0 b0 hbx
  have Ht := Lib.hid ht
  clear ht
  cases hv : testB ⟨a0, a1, a2⟩ with
  | false =>
    have Hr : Hid (rTestText ⟨a0, a1, a2⟩ = ⟨#[]⟩) := Lib.hid (by unfold rTestText; rw [hv]; rfl)
    have Hv := Lib.hid hv
    clear hv
    go_enter Tryd.func12, Tryd.ntmps12
    go_wp2_with fail
    rw [HW0.out]
    refine isTest_any.mono ?_
    rw [Hv.out]
    rintro e w1 ⟨rfl, b1⟩
    go_wp2_with fail
    go_ret
    exact ⟨ret_strT (by rw [Hr.out]), B0.out.trans (b1.mono (Nat.le_of_lt hlt0))⟩
  | true =>
    obtain ⟨a, b, c, h1, h2, h3, ha, hb, hc⟩ := testB_parts hv
    simp only at h1 h2 h3
    subst h1
    subst h2
    subst h3
    have Hr : Hid (rTestText ⟨(a : Int), (b : Int), (c : Int)⟩ = dateT a ++ ⟨#[32]⟩ ++ jn 44 [b, c]) := Lib.hid (by unfold rTestText; rw [hv]; rfl)
    have Hle := Lib.hid (le2 hb hc)
    have Hv := Lib.hid hv
    clear hv
    go_enter Tryd.func12, Tryd.ntmps12
    go_wp2_with fail
    rw [HW0.out]
    refine isTest_any.mono ?_
    rw [Hv.out]
    rintro e w1 ⟨rfl, b1⟩
    have Hb1 := Lib.hid (Hbx.out.below b1 hlt0)
    have B1 := Lib.hid (B0.out.trans (b1.mono (Nat.le_of_lt hlt0)))
    have hs1 := B1.out.size
    have hlt1 := Hb1.out.lt
    have y0 : w1.cell? ⟨w.heap.size, 0, none⟩ = some (.int .i64 (a : Int)) := Hb1.out.at_ 0 _ rfl
    have y1 : w1.cell? ⟨w.heap.size, 1, none⟩ = some (.int .i64 (b : Int)) := Hb1.out.at_ 1 _ rfl
    have y2 : w1.cell? ⟨w.heap.size, 2, none⟩ = some (.int .i64 (c : Int)) := Hb1.out.at_ 2 _ rfl
    have hjz := jn2_size Hle.out
    have hdz := dateT_size (isD_ex 1200 a (by rw [mE_1200]; omega)) ha
    have HDA : Hid (Calls Tryd.prog 24 #[.int .i64 (a : Int)] w1.drew fun e w' => e = .returned (.string (dateT a)) ∧ Below w1.heap.size w1 w') := Lib.hid
      ((implDateText_go (w := w1.drew) ha (Ht.out.below (B1.out.trans (((Below.refl w1.heap.size w1).drew).mono hs1)))).mono fun e w' ⟨he, hb⟩ => ⟨he, ((Below.refl w1.heap.size w1).drew).trans hb⟩)
    have HDB : Hid (Calls Tryd.prog 24 #[.int .i64 (a : Int)] (w1.alloc (.cells #[.int .i64 (b : Int), .int .i64 (c : Int)] 2)).drew fun e w' => e = .returned (.string (dateT a)) ∧ Below (w1.heap.size + 1) (w1.alloc (.cells #[.int .i64 (b : Int), .int .i64 (c : Int)] 2)) w' ∧ Below w1.heap.size w1 w') := Lib.hid (by
      have p1 : Below w1.heap.size w1 ((w1.alloc (.cells #[.int .i64 (b : Int), .int .i64 (c : Int)] 2)).drew) := ((Below.refl _ _).alloc (Nat.le_refl _) _).drew
      refine (implDateText_go (w := (w1.alloc (.cells #[.int .i64 (b : Int), .int .i64 (c : Int)] 2)).drew) ha (Ht.out.below (B1.out.trans (p1.mono hs1)))).mono ?_
      exact fun e w' ⟨he, hb⟩ => ⟨he, ((Below.refl (w1.heap.size + 1) (w1.alloc (.cells #[.int .i64 (b : Int), .int .i64 (c : Int)] 2))).drew).trans (hb.mono (pre2 w1 _)), p1.trans (hb.mono p1.size)⟩)
    have HLA : Hid (∀ w5, Below w1.heap.size w1 w5 → Calls Tryd.prog 20 #[.slice (some ⟨w5.heap.size, 0, none⟩) 2 2] (w5.alloc (.cells #[.int .i64 (b : Int), .int .i64 (c : Int)] 2)) fun e w' => e = .returned (.string (jn 44 [b, c])) ∧ Below w1.heap.size w1 w') := Lib.hid (fun w5 hb5 => by
      have p1 : Below w1.heap.size w1 (w5.alloc (.cells #[.int .i64 (b : Int), .int .i64 (c : Int)] 2)) := hb5.alloc hb5.size _
      refine (implListText_go (w := w5.alloc (.cells #[.int .i64 (b : Int), .int .i64 (c : Int)] 2)) (vs := [b, c]) (B := w5.heap.size + 1) (n := 2) (c := 2) (two_ints w5 b c) (pre2 w5 _) (by omega) (by omega) Hle.out (Ht.out.below (B1.out.trans (p1.mono hs1)))).mono ?_
      exact fun e w' ⟨he, hb⟩ => ⟨he, p1.trans (hb.mono p1.size)⟩)
    have HLB : Hid (∀ w5, Below (w1.heap.size + 1) (w1.alloc (.cells #[.int .i64 (b : Int), .int .i64 (c : Int)] 2)) w5 → Below w1.heap.size w1 w5 → Calls Tryd.prog 20 #[.slice (some ⟨w1.heap.size, 0, none⟩) 2 2] w5 fun e w' => e = .returned (.string (jn 44 [b, c])) ∧ Below w1.heap.size w1 w') := Lib.hid (fun w5 hb5 hb6 => by
      refine (implListText_go (w := w5) (vs := [b, c]) (B := w1.heap.size + 1) (n := 2) (c := 2) (Reads.below (two_ints w1 b c) hb5 (Nat.le_refl _)) (Nat.le_trans (pre2 w1 _) hb5.size) (by omega) (by omega) Hle.out (Ht.out.below (B1.out.trans (hb6.mono hs1)))).mono ?_
      exact fun e w' ⟨he, hb⟩ => ⟨he, hb6.trans (hb.mono hb6.size)⟩)
    have HKA : Hid (∀ W : World, Below w1.heap.size w1 W → (W.cell? ⟨w.heap.size, 0, none⟩ = some (.int .i64 (a : Int)) ∧ W.cell? ⟨w.heap.size, 1, none⟩ = some (.int .i64 (b : Int)) ∧ W.cell? ⟨w.heap.size, 2, none⟩ = some (.int .i64 (c : Int)))) := Lib.hid (fun W hW =>
      ⟨(hW.cell hlt1).trans y0, (hW.cell hlt1).trans y1, (hW.cell hlt1).trans y2⟩)
    have hD : Below w1.heap.size w1 w1.drew := (Below.refl _ _).drew
    have hE : Below w1.heap.size w1 ((w1.alloc (.cells #[.int .i64 (b : Int), .int .i64 (c : Int)] 2)).drew) := ((Below.refl _ _).alloc (Nat.le_refl _) _).drew
    have hE2 : Below w1.heap.size w1 (w1.drew.alloc (.cells #[.int .i64 (b : Int), .int .i64 (c : Int)] 2)) := ((Below.refl _ _).drew).alloc (Nat.le_refl _) _
    generalize jn 44 [b, c] = js at *
    generalize dateT a = ds at *
    have hz1 : ¬ 9223372036854775807 < ds.size + 1 := by omega
    have hz2 : ¬ 9223372036854775807 < ds.size + 1 + js.size := by omega
    clear x0 x1 x2 b1
    go_wp2_with fail
    go_region_held3 (fun W => W.cell? ⟨w.heap.size, 0, none⟩ = some (.int .i64 (a : Int)) ∧ W.cell? ⟨w.heap.size, 1, none⟩ = some (.int .i64 (b : Int)) ∧ W.cell? ⟨w.heap.size, 2, none⟩ = some (.int .i64 (c : Int)))
      ((with_reducible refine HKA.out _ ?_; (first | with_reducible assumption | with_reducible exact hD | with_reducible exact hE | with_reducible exact hE2)))
      ((first
        | (go_at_call 24; with_reducible refine HDA.out.mono ?_; rintro e w5 ⟨rfl, hb5⟩; have hb6 := hb5.alloc hb5.size (.cells #[.int .i64 (b : Int), .int .i64 (c : Int)] 2))
        | (go_at_call 24; with_reducible refine HDB.out.mono ?_; rintro e w5 ⟨rfl, hb5, hb6⟩)
        | (go_at_call 20; with_reducible refine (HLA.out _ (by with_reducible assumption)).mono ?_; rintro e w7 ⟨rfl, hb7⟩)
        | (go_at_call 20; with_reducible refine (HLB.out _ (by with_reducible assumption) (by with_reducible assumption)).mono ?_; rintro e w7 ⟨rfl, hb7⟩)
        | fail))
    all_goals
      go_wp2_with fail
      go_ret
      exact ⟨ret_strT (by rw [Hr.out]), B1.out.trans (hb7.mono hs1)⟩

set_option maxHeartbeats 2000000 in
theorem l22Text_any {p : Addr} {a b c : Nat} {w1 : World} (y0 : w1.cell? p = some (.int .i64 (a : Int))) (y1 : w1.cell? ⟨p.block, p.off + 1, none⟩ = some (.int .i64 (b : Int))) (y2 : w1.cell? ⟨p.block, p.off + 2, none⟩ = some (.int .i64 (c : Int))) (ha : a ≤ 36524) (hb : b ≤ 1000000000000) (hc : c ≤ 1000000000000) :
    Calls Tryd.prog 22 #[.pointer (some p)] w1 fun e w' => e = .returned (.string (dateT a ++ ⟨#[32]⟩ ++ jn 44 [b, c])) ∧ Below w1.heap.size w1 w' := by
    have Hle := Lib.hid (le2 hb hc)
    have hlt1 : p.block < w1.heap.size := block_lt_of_cell y0
    have hjz := jn2_size Hle.out
    have hdz := dateT_size (isD_ex 1200 a (by rw [mE_1200]; omega)) ha
    have HDA : Hid (Calls Tryd.prog 44 #[.int .i64 (a : Int)] w1.drew fun e w' => e = .returned (.string (dateT a)) ∧ Below w1.heap.size w1 w') := Lib.hid
      ((l02Text_any (w := w1.drew) ha).mono fun e w' ⟨he, hb⟩ => ⟨he, ((Below.refl w1.heap.size w1).drew).trans hb⟩)
    have HDB : Hid (Calls Tryd.prog 44 #[.int .i64 (a : Int)] (w1.alloc (.cells #[.int .i64 (b : Int), .int .i64 (c : Int)] 2)).drew fun e w' => e = .returned (.string (dateT a)) ∧ Below (w1.heap.size + 1) (w1.alloc (.cells #[.int .i64 (b : Int), .int .i64 (c : Int)] 2)) w' ∧ Below w1.heap.size w1 w') := Lib.hid (by
      have p1 : Below w1.heap.size w1 ((w1.alloc (.cells #[.int .i64 (b : Int), .int .i64 (c : Int)] 2)).drew) := ((Below.refl _ _).alloc (Nat.le_refl _) _).drew
      refine (l02Text_any (w := (w1.alloc (.cells #[.int .i64 (b : Int), .int .i64 (c : Int)] 2)).drew) ha).mono ?_
      exact fun e w' ⟨he, hb⟩ => ⟨he, ((Below.refl (w1.heap.size + 1) (w1.alloc (.cells #[.int .i64 (b : Int), .int .i64 (c : Int)] 2))).drew).trans (hb.mono (pre2 w1 _)), p1.trans (hb.mono p1.size)⟩)
    have HLA : Hid (∀ w5, Below w1.heap.size w1 w5 → Calls Tryd.prog 34 #[.slice (some ⟨w5.heap.size, 0, none⟩) 2 2] (w5.alloc (.cells #[.int .i64 (b : Int), .int .i64 (c : Int)] 2)) fun e w' => e = .returned (.string (jn 44 [b, c])) ∧ Below w1.heap.size w1 w') := Lib.hid (fun w5 hb5 => by
      have p1 : Below w1.heap.size w1 (w5.alloc (.cells #[.int .i64 (b : Int), .int .i64 (c : Int)] 2)) := hb5.alloc hb5.size _
      refine (l01List_any (w := w5.alloc (.cells #[.int .i64 (b : Int), .int .i64 (c : Int)] 2)) (vs := [b, c]) (B := w5.heap.size + 1) (n := 2) (c := 2) (two_ints w5 b c) (pre2 w5 _) (by omega) (by omega) Hle.out).mono ?_
      exact fun e w' ⟨he, hb⟩ => ⟨he, p1.trans (hb.mono p1.size)⟩)
    have HLB : Hid (∀ w5, Below (w1.heap.size + 1) (w1.alloc (.cells #[.int .i64 (b : Int), .int .i64 (c : Int)] 2)) w5 → Below w1.heap.size w1 w5 → Calls Tryd.prog 34 #[.slice (some ⟨w1.heap.size, 0, none⟩) 2 2] w5 fun e w' => e = .returned (.string (jn 44 [b, c])) ∧ Below w1.heap.size w1 w') := Lib.hid (fun w5 hb5 hb6 => by
      refine (l01List_any (w := w5) (vs := [b, c]) (B := w1.heap.size + 1) (n := 2) (c := 2) (Reads.below (two_ints w1 b c) hb5 (Nat.le_refl _)) (Nat.le_trans (pre2 w1 _) hb5.size) (by omega) (by omega) Hle.out).mono ?_
      exact fun e w' ⟨he, hb⟩ => ⟨he, hb6.trans (hb.mono hb6.size)⟩)
    have HKA : Hid (∀ W : World, Below w1.heap.size w1 W → (W.cell? p = some (.int .i64 (a : Int)) ∧ W.cell? ⟨p.block, p.off + 1, none⟩ = some (.int .i64 (b : Int)) ∧ W.cell? ⟨p.block, p.off + 2, none⟩ = some (.int .i64 (c : Int)))) := Lib.hid (fun W hW =>
      ⟨(hW.cell hlt1).trans y0, (hW.cell (p := ⟨p.block, p.off + 1, none⟩) hlt1).trans y1, (hW.cell (p := ⟨p.block, p.off + 2, none⟩) hlt1).trans y2⟩)
    have hD : Below w1.heap.size w1 w1.drew := (Below.refl _ _).drew
    have hE : Below w1.heap.size w1 ((w1.alloc (.cells #[.int .i64 (b : Int), .int .i64 (c : Int)] 2)).drew) := ((Below.refl _ _).alloc (Nat.le_refl _) _).drew
    have hE2 : Below w1.heap.size w1 (w1.drew.alloc (.cells #[.int .i64 (b : Int), .int .i64 (c : Int)] 2)) := ((Below.refl _ _).drew).alloc (Nat.le_refl _) _
    generalize jn 44 [b, c] = js at *
    generalize dateT a = ds at *
    have hz1 : ¬ 9223372036854775807 < ds.size + 1 := by omega
    have hz2 : ¬ 9223372036854775807 < ds.size + 1 + js.size := by omega
    go_enter Tryd.func22, Tryd.ntmps22
    go_wp2_with fail
    go_region_held3 (fun W => W.cell? p = some (.int .i64 (a : Int)) ∧ W.cell? ⟨p.block, p.off + 1, none⟩ = some (.int .i64 (b : Int)) ∧ W.cell? ⟨p.block, p.off + 2, none⟩ = some (.int .i64 (c : Int)))
      ((with_reducible refine HKA.out _ ?_; (first | with_reducible assumption | with_reducible exact hD | with_reducible exact hE | with_reducible exact hE2)))
      ((first
        | (go_at_call 44; with_reducible refine HDA.out.mono ?_; rintro e w5 ⟨rfl, hb5⟩; have hb6 := hb5.alloc hb5.size (.cells #[.int .i64 (b : Int), .int .i64 (c : Int)] 2))
        | (go_at_call 44; with_reducible refine HDB.out.mono ?_; rintro e w5 ⟨rfl, hb5, hb6⟩)
        | (go_at_call 34; with_reducible refine (HLA.out _ (by with_reducible assumption)).mono ?_; rintro e w7 ⟨rfl, hb7⟩)
        | (go_at_call 34; with_reducible refine (HLB.out _ (by with_reducible assumption) (by with_reducible assumption)).mono ?_; rintro e w7 ⟨rfl, hb7⟩)
        | fail))
    all_goals
      go_wp2_with fail
      go_ret
      exact ⟨rfl, hb7⟩
theorem specTestText_any {a0 a1 a2 : Int} {w : World} :
    Calls Tryd.prog 10 #[.agg #[.int .i64 a0, .int .i64 a1, .int .i64 a2]] w fun e w' => e = .returned (.string (rTestText ⟨a0, a1, a2⟩)) ∧ Below w.heap.size w w' := by
  obtain ⟨w0, hw0⟩ : ∃ w0, w.alloc (.cells #[.int .i64 a0, .int .i64 a1, .int .i64 a2] 32) = w0 := ⟨_, rfl⟩
  have b0 : Below w.heap.size w w0 := by rw [← hw0]; exact (Below.refl _ _).alloc (Nat.le_refl _) _
  have hbx : HC w0 w.heap.size [.int .i64 a0, .int .i64 a1, .int .i64 a2] := by rw [← hw0]; exact ⟨fun j u hu => by simpa using hu, fun j => by simp, by simp⟩
  have x0 : w0.cell? ⟨w.heap.size, 0, none⟩ = some (.int .i64 a0) := hbx.at_ 0 _ rfl
  have x1 : w0.cell? ⟨w.heap.size, 1, none⟩ = some (.int .i64 a1) := hbx.at_ 1 _ rfl
  have x2 : w0.cell? ⟨w.heap.size, 2, none⟩ = some (.int .i64 a2) := hbx.at_ 2 _ rfl
  have HW0 := Lib.hid hw0
  have B0 := Lib.hid b0
  have Hbx := Lib.hid hbx
  have hlt0 := hbx.lt
  clear hw0 b0 hbx
  clear Hbx
  cases hv : testB ⟨a0, a1, a2⟩ with
  | false =>
    have Hr : Hid (rTestText ⟨a0, a1, a2⟩ = ⟨#[]⟩) := Lib.hid (by unfold rTestText; rw [hv]; rfl)
    have Hv := Lib.hid hv
    clear hv
    go_enter Tryd.func10, Tryd.ntmps10
    go_wp2_with fail
    rw [HW0.out]
    refine (l22One_any x0 x1 x2).mono ?_
    rw [Hv.out]
    rintro e w1 ⟨rfl, rfl⟩
    go_wp2_with fail
    go_ret
    exact ⟨ret_strT (by rw [Hr.out]), B0.out⟩
  | true =>
    obtain ⟨a, b, c, h1, h2, h3, ha, hb, hc⟩ := testB_parts hv
    simp only at h1 h2 h3
    subst h1
    subst h2
    subst h3
    have Hr : Hid (rTestText ⟨(a : Int), (b : Int), (c : Int)⟩ = dateT a ++ ⟨#[32]⟩ ++ jn 44 [b, c]) := Lib.hid (by unfold rTestText; rw [hv]; rfl)
    have Hv := Lib.hid hv
    clear hv
    go_enter Tryd.func10, Tryd.ntmps10
    go_wp2_with fail
    rw [HW0.out]
    refine (l22One_any x0 x1 x2).mono ?_
    rw [Hv.out]
    rintro e w1 ⟨rfl, rfl⟩
    go_wp2_with fail
    refine (l22Text_any x0 x1 x2 ha hb hc).mono ?_
    rintro e w2 ⟨rfl, b2⟩
    go_wp2_with fail
    go_ret
    exact ⟨ret_strT (by rw [Hr.out]), B0.out.trans (b2.mono (Nat.le_of_lt hlt0))⟩
end Go.Proofs.YtaojhfbcdoicpaaDoor
