/- Inspections: CheckText: contracts of both sides. -/
import Derived.Test.YtickepianllblaaGreatDoorTf
import Derived.Test.YtickepianllblaaGreatDoorCa
import Derived.Test.YtickepianllblaaGreatDoorZ
import Derived.Deep.RegionHeld3
import Derived.BigQuiet
namespace Go.Proofs.YtickepianllblaaGreatDoor
open Go.RowKit
set_option maxRecDepth 100000
set_option linter.unusedVariables false
set_option linter.unusedSimpArgs false

def ckN (x : CheckR) : List Nat := [x.EveryDays.toNat, x.EveryRides.toNat, x.LastDay.toNat, x.LastRide.toNat]
def rCheckText (x : CheckR) : ByteArray := if checkB x then x.Id ++ ⟨#[32]⟩ ++ jn 44 (ckN x) else ⟨#[]⟩
theorem checkB_parts {x : CheckR} (h : checkB x = true) : x.Id.size ≤ 10 ∧ ∃ a b c d : Nat, x.EveryDays = (a : Int) ∧ x.EveryRides = (b : Int) ∧ x.LastDay = (c : Int) ∧ x.LastRide = (d : Int) ∧ a ≤ 1000000000000 ∧ b ≤ 1000000000000 ∧ c ≤ 1000000000000 ∧ d ≤ 1000000000000 := by
  simp only [checkB, Bool.and_eq_true, inB_true] at h
  exact ⟨(nameB_len h.1).2, x.EveryDays.toNat, x.EveryRides.toNat, x.LastDay.toNat, x.LastRide.toNat, by omega, by omega, by omega, by omega, by omega, by omega, by omega, by omega⟩
theorem four_ints (w : World) (a b c d : Nat) : Ints (w.alloc (.cells #[.int .i64 (a : Int), .int .i64 (b : Int), .int .i64 (c : Int), .int .i64 (d : Int)] 2)) (w.heap.size + 1) (some ⟨w.heap.size, 0, none⟩) 4 (ciT [a, b, c, d]) :=
  ⟨by simp [ciT], fun _ => ⟨⟨w.heap.size, 0, none⟩, rfl, Nat.lt_succ_self _, fun j u hu => by rw [Addr.add_lit, Nat.zero_add]; simpa [ciT] using hu⟩⟩
theorem pre4 (w : World) (o : Obj) : w.heap.size + 1 ≤ (w.alloc o).drew.heap.size := by
  show w.heap.size + 1 ≤ (w.alloc o).heap.size
  simp
theorem le4 {a b c d : Nat} (ha : a ≤ 1000000000000) (hb : b ≤ 1000000000000) (hc : c ≤ 1000000000000) (hd : d ≤ 1000000000000) : ∀ v ∈ [a, b, c, d], v ≤ 1000000000000 := by
  intro v hv
  simp only [List.mem_cons, List.not_mem_nil, or_false] at hv
  rcases hv with rfl | rfl | rfl | rfl <;> assumption
theorem jn4_size {a b c d : Nat} (h : ∀ v ∈ [a, b, c, d], v ≤ 1000000000000) : (jn 44 [a, b, c, d]).size ≤ 84 := jn_size 44 (vs := [a, b, c, d]) (fun v hv => by have := h v hv; omega) 4 (Nat.le_refl _)

set_option maxHeartbeats 2000000 in
theorem implCheckText_any {a0 : ByteArray} {a1 a2 a3 a4 : Int} {w : World} (hs : a0.size ≤ 1048576) (ht : TabOk w) :
    Calls Tryz.prog 17 #[.agg #[.string a0, .int .i64 a1, .int .i64 a2, .int .i64 a3, .int .i64 a4]] w fun e w' => e = .returned (.string (rCheckText ⟨a0, a1, a2, a3, a4⟩)) ∧ Below w.heap.size w w' := by
  obtain ⟨w0, hw0⟩ : ∃ w0, w.alloc (.cells #[.string a0, .int .i64 a1, .int .i64 a2, .int .i64 a3, .int .i64 a4] 39) = w0 := ⟨_, rfl⟩
  have b0 : Below w.heap.size w w0 := by rw [← hw0]; exact (Below.refl _ _).alloc (Nat.le_refl _) _
  have hbx : HC w0 w.heap.size [.string a0, .int .i64 a1, .int .i64 a2, .int .i64 a3, .int .i64 a4] := by rw [← hw0]; exact ⟨fun j u hu => by simpa using hu, fun j => by simp, by simp⟩
  have x0 : w0.cell? ⟨w.heap.size, 0, none⟩ = some (.string a0) := hbx.at_ 0 _ rfl
  have x1 : w0.cell? ⟨w.heap.size, 1, none⟩ = some (.int .i64 a1) := hbx.at_ 1 _ rfl
  have x2 : w0.cell? ⟨w.heap.size, 2, none⟩ = some (.int .i64 a2) := hbx.at_ 2 _ rfl
  have x3 : w0.cell? ⟨w.heap.size, 3, none⟩ = some (.int .i64 a3) := hbx.at_ 3 _ rfl
  have x4 : w0.cell? ⟨w.heap.size, 4, none⟩ = some (.int .i64 a4) := hbx.at_ 4 _ rfl
  have HW0 := Lib.hid hw0
  have B0 := Lib.hid b0
  have Hbx := Lib.hid hbx
  have Ht := Lib.hid ht
  have hlt0 := hbx.lt
  clear hw0 b0 ht hbx
  cases hv : checkB ⟨a0, a1, a2, a3, a4⟩ with
  | false =>
    have Hr : Hid (rCheckText ⟨a0, a1, a2, a3, a4⟩ = ⟨#[]⟩) := Lib.hid (by unfold rCheckText; rw [hv]; rfl)
    have Hv := Lib.hid hv
    clear hv
    go_enter Tryz.func17, Tryz.ntmps17
    go_wp2_with fail
    rw [HW0.out]
    refine (validCheck_any hs).mono ?_
    rw [Hv.out]
    rintro e w1 ⟨rfl, b1⟩
    go_wp2_with fail
    go_ret
    exact ⟨ret_strT (by rw [Hr.out]), B0.out.trans (b1.mono (Nat.le_of_lt hlt0))⟩
  | true =>
    obtain ⟨hid, a, b, c, d, h1, h2, h3, h4, ha, hb, hc, hd⟩ := checkB_parts hv
    simp only at hid h1 h2 h3 h4
    subst h1
    subst h2
    subst h3
    subst h4
    have Hr : Hid (rCheckText ⟨a0, (a : Int), (b : Int), (c : Int), (d : Int)⟩ = a0 ++ ⟨#[32]⟩ ++ jn 44 [a, b, c, d]) := Lib.hid (by unfold rCheckText; rw [hv]; rfl)
    have Hle := Lib.hid (le4 ha hb hc hd)
    have hjz := jn4_size Hle.out
    have Hv := Lib.hid hv
    clear hv
    go_enter Tryz.func17, Tryz.ntmps17
    go_wp2_with fail
    rw [HW0.out]
    refine (validCheck_any hs).mono ?_
    rw [Hv.out]
    rintro e w1 ⟨rfl, b1⟩
    have Hb1 := Lib.hid (Hbx.out.below b1 hlt0)
    have B1 := Lib.hid (B0.out.trans (b1.mono (Nat.le_of_lt hlt0)))
    have hs1 := B1.out.size
    have hlt1 := Hb1.out.lt
    have y0 : w1.cell? ⟨w.heap.size, 0, none⟩ = some (.string a0) := Hb1.out.at_ 0 _ rfl
    have y1 : w1.cell? ⟨w.heap.size, 1, none⟩ = some (.int .i64 (a : Int)) := Hb1.out.at_ 1 _ rfl
    have y2 : w1.cell? ⟨w.heap.size, 2, none⟩ = some (.int .i64 (b : Int)) := Hb1.out.at_ 2 _ rfl
    have y3 : w1.cell? ⟨w.heap.size, 3, none⟩ = some (.int .i64 (c : Int)) := Hb1.out.at_ 3 _ rfl
    have y4 : w1.cell? ⟨w.heap.size, 4, none⟩ = some (.int .i64 (d : Int)) := Hb1.out.at_ 4 _ rfl
    have HCall : Hid (Calls Tryz.prog 31 #[.slice (some ⟨w1.heap.size, 0, none⟩) 4 4] ((w1.alloc (.cells #[.int .i64 (a : Int), .int .i64 (b : Int), .int .i64 (c : Int), .int .i64 (d : Int)] 2)).drew) fun e w' => e = .returned (.string (jn 44 [a, b, c, d])) ∧ Below w1.heap.size w1 w') := Lib.hid (by
      have pre : Below w1.heap.size w1 ((w1.alloc (.cells #[.int .i64 (a : Int), .int .i64 (b : Int), .int .i64 (c : Int), .int .i64 (d : Int)] 2)).drew) := ((Below.refl _ _).alloc (Nat.le_refl _) _).drew
      refine (implListText_go (w := (w1.alloc (.cells #[.int .i64 (a : Int), .int .i64 (b : Int), .int .i64 (c : Int), .int .i64 (d : Int)] 2)).drew) (vs := [a, b, c, d]) (B := w1.heap.size + 1) (n := 4) (c := 4) (four_ints w1 a b c d) (pre4 w1 _) (by omega) (by omega) Hle.out (Ht.out.below (B1.out.trans (pre.mono hs1)))).mono ?_
      exact fun e w' ⟨he, hb⟩ => ⟨he, pre.trans (hb.mono pre.size)⟩)
    have HKA : Hid (∀ W : World, Below w1.heap.size w1 W → (W.cell? ⟨w.heap.size, 0, none⟩ = some (.string a0) ∧ W.cell? ⟨w.heap.size, 1, none⟩ = some (.int .i64 (a : Int)) ∧ W.cell? ⟨w.heap.size, 2, none⟩ = some (.int .i64 (b : Int)) ∧ W.cell? ⟨w.heap.size, 3, none⟩ = some (.int .i64 (c : Int)) ∧ W.cell? ⟨w.heap.size, 4, none⟩ = some (.int .i64 (d : Int)))) := Lib.hid (fun W hW =>
      ⟨(hW.cell hlt1).trans y0, (hW.cell hlt1).trans y1, (hW.cell hlt1).trans y2, (hW.cell hlt1).trans y3, (hW.cell hlt1).trans y4⟩)
    have hD : Below w1.heap.size w1 w1.drew := (Below.refl _ _).drew
    have hE : Below w1.heap.size w1 ((w1.alloc (.cells #[.int .i64 (a : Int), .int .i64 (b : Int), .int .i64 (c : Int), .int .i64 (d : Int)] 2)).drew) := ((Below.refl _ _).alloc (Nat.le_refl _) _).drew
    have hE2 : Below w1.heap.size w1 (w1.drew.alloc (.cells #[.int .i64 (a : Int), .int .i64 (b : Int), .int .i64 (c : Int), .int .i64 (d : Int)] 2)) := ((Below.refl _ _).drew).alloc (Nat.le_refl _) _
    generalize jn 44 [a, b, c, d] = js at *
    have hz1 : ¬ 9223372036854775807 < a0.size + 1 := by omega
    have hz2 : ¬ 9223372036854775807 < a0.size + 1 + js.size := by omega
    clear x0 x1 x2 x3 x4 b1
    go_wp2_with fail
    go_region_held3 (fun W => W.cell? ⟨w.heap.size, 0, none⟩ = some (.string a0) ∧ W.cell? ⟨w.heap.size, 1, none⟩ = some (.int .i64 (a : Int)) ∧ W.cell? ⟨w.heap.size, 2, none⟩ = some (.int .i64 (b : Int)) ∧ W.cell? ⟨w.heap.size, 3, none⟩ = some (.int .i64 (c : Int)) ∧ W.cell? ⟨w.heap.size, 4, none⟩ = some (.int .i64 (d : Int)))
      ((with_reducible refine HKA.out _ ?_; (first | with_reducible assumption | with_reducible exact hD | with_reducible exact hE | with_reducible exact hE2)))
      ((first
        | (go_at_call 31; refine HCall.out.mono ?_; rintro e w5 ⟨rfl, hb5⟩)
        | fail))
    all_goals
      go_wp2_with fail
      go_ret
      exact ⟨ret_strT (by rw [Hr.out]), B1.out.trans (hb5.mono hs1)⟩

end Go.Proofs.YtickepianllblaaGreatDoor
