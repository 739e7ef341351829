/- Reading of inspections: contracts of both sides. -/
import Derived.Test.YtickepianllblaaGreatDoorUi
namespace Go.Proofs.YtickepianllblaaGreatDoor
open Go.RowKit
set_option maxRecDepth 100000
set_option linter.unusedVariables false
set_option linter.unusedSimpArgs false

theorem cut_short (l : List UInt8) : (Lib.cut l [32]).1.length ≤ l.length ∧ (Lib.cut l [32]).2.1.length ≤ l.length := by
  by_cases hm : (32 : UInt8) ∈ l
  · obtain ⟨a, b, rfl, hn⟩ := first_at 32 l hm
    rw [cut_hit a b hn]
    simp
    omega
  · rw [cut_none hm]
    simp
theorem mk_len (l : List UInt8) : (⟨l.toArray⟩ : ByteArray).size = l.length := by
  show l.toArray.size = _
  rw [List.size_toArray]
theorem HC.set5 {w : World} {b : Nat} {vs : List Value} (h : HC w b vs) (hl : vs.length = 5) (v0 v1 v2 v3 v4 : Value) :
    HC (((((w.setCell ⟨b, 0, none⟩ v0).setCell ⟨b, 1, none⟩ v1).setCell ⟨b, 2, none⟩ v2).setCell ⟨b, 3, none⟩ v3).setCell ⟨b, 4, none⟩ v4) b [v0, v1, v2, v3, v4] := by
  match vs, hl with
  | [a0, a1, a2, a3, a4], _ =>
    exact ((((h.set v0 (j := 0) (by simp)).set v1 (j := 1) (by simp)).set v2 (j := 2) (by simp)).set v3 (j := 3) (by simp)).set v4 (j := 4) (by simp)
theorem below_set5 {a w : World} {B b : Nat} (h : Below B a w) (hb : B ≤ b) (v0 v1 v2 v3 v4 : Value) :
    Below B a (((((w.setCell ⟨b, 0, none⟩ v0).setCell ⟨b, 1, none⟩ v1).setCell ⟨b, 2, none⟩ v2).setCell ⟨b, 3, none⟩ v3).setCell ⟨b, 4, none⟩ v4) :=
  ((((h.setCell hb v0).setCell hb v1).setCell hb v2).setCell hb v3).setCell hb v4
set_option maxHeartbeats 1000000 in
theorem readNamed_any {s : ByteArray} {w : World} (hs : s.size ≤ 1048576) (ht : TabR w) :
    Calls Tryz.prog 30 #[.string s, .int .i64 4] w fun e w' => ∃ (A : Option Addr) (n k : Nat), e = .returned (.tuple #[.string ⟨(Lib.cut s.data.toList [32]).1.toArray⟩, .slice A n k, .bool ((n : Int) == 4)]) ∧ n ≤ 64 ∧ Own w' w.heap.size 2 1 A n k ((rReadL (Lib.cut s.data.toList [32]).2.1).1.map (Value.int .i64)) ∧ Below w.heap.size w w' := by
  obtain ⟨m, hm⟩ := ht.2.1
  have hlen := bytes_len s
  have hsh := cut_short s.data.toList
  have Hc := Lib.hid (Tryz.strings_Cut s ⟨#[32]⟩ m w (by omega) hm)
  have Hb : Hid ((⟨(Lib.cut s.data.toList [32]).2.1.toArray⟩ : ByteArray).size ≤ 1048576) := Lib.hid (by rw [mk_len]; omega)
  have Hd : Hid ((⟨(Lib.cut s.data.toList [32]).2.1.toArray⟩ : ByteArray).data.toList = (Lib.cut s.data.toList [32]).2.1) := Lib.hid rfl
  have Hc2 : Hid (Calls Tryz.prog 49 #[.string s, .string ⟨#[32]⟩] w fun e w' => e = .returned (.tuple #[.string ⟨(Lib.cut s.data.toList [32]).1.toArray⟩, .string ⟨(Lib.cut s.data.toList [32]).2.1.toArray⟩, .bool (Lib.cut s.data.toList [32]).2.2]) ∧ ∃ n, w' = w.drewN n) := Hc
  clear Hc hsh hm
  rw [← Hd.out]
  generalize (⟨(Lib.cut s.data.toList [32]).2.1.toArray⟩ : ByteArray) = b at *
  generalize (⟨(Lib.cut s.data.toList [32]).1.toArray⟩ : ByteArray) = a at *
  generalize (Lib.cut s.data.toList [32]).2.2 = f at *
  clear Hd
  go_enter Tryz.func30, Tryz.ntmps30
  go_wp2_with fail
  refine Hc2.out.mono ?_
  rintro e w1 ⟨rfl, d, rfl⟩
  have B1 : Hid (Below w.heap.size w (w.drewN d)) := Lib.hid (below_drewN (Below.refl _ _) _)
  have HL := Lib.hid (implReadList_any (w := w.drewN d) Hb.out (ht.below B1.out))
  have hsz : w.heap.size ≤ (w.drewN d).heap.size := B1.out.size
  go_wp2_with fail
  refine HL.out.mono ?_
  rintro e w2 ⟨A, n, k, rfl, hn, ho, hb⟩
  have HF : Hid (n ≤ 64 ∧ Own w2 w.heap.size 2 1 A n k ((rReadL b.data.toList).1.map (Value.int .i64)) ∧ Below w.heap.size w w2) := Lib.hid ⟨hn, ho.mono hsz, B1.out.trans (hb.mono hsz)⟩
  generalize (rReadL b.data.toList).2 = q at *
  clear ho hb
  go_wp2_with fail
  exact bodyPost_ret (v := .tuple #[.string a, .slice A n k, .bool ((n : Int) == 4)]) (by simp [results, Tryz.results30, go_sem]) rfl ⟨A, n, k, rfl, HF.out⟩
def RcP (l : List UInt8) (w : World) (e : Ending) (w' : World) : Prop := e = .returned (.tuple #[(rRC l).1.val, .bool (rRC l).2]) ∧ Below w.heap.size w w'
set_option maxHeartbeats 2000000 in
theorem implReadCheck_any {s : ByteArray} {w : World} (hs : s.size ≤ 1048576) (ht : TabR w) : Calls Tryz.prog 16 #[.string s] w (RcP s.data.toList w) := by
  have hsh := cut_short s.data.toList
  have hlen := bytes_len s
  have HR := Lib.hid (iRC_eq s.data.toList)
  have HI : Hid (iRC s.data.toList = iRC s.data.toList) := Lib.hid rfl
  obtain ⟨w0, hw0⟩ : ∃ w0, w.alloc (.cells #[.string ⟨#[]⟩, .int .i64 0, .int .i64 0, .int .i64 0, .int .i64 0] 39) = w0 := ⟨_, rfl⟩
  have b0 : Below w.heap.size w w0 := by rw [← hw0]; exact (Below.refl _ _).alloc (Nat.le_refl _) _
  have hbx : HC w0 w.heap.size CheckR.zero.cells := by rw [← hw0]; exact ⟨fun j u hu => by have e : CheckR.zero.cells = [.string ⟨#[]⟩, .int .i64 0, .int .i64 0, .int .i64 0, .int .i64 0] := rfl; rw [e] at hu; simpa using hu, fun j => by simp, by simp⟩
  have HW0 := Lib.hid hw0
  have B0 := Lib.hid b0
  have Hbx := Lib.hid hbx
  have hlt0 := hbx.lt
  have Hn := Lib.hid (readNamed_any (w := w0) hs (ht.below b0))
  clear hw0 b0 hbx
  go_enter Tryz.func16, Tryz.ntmps16
  go_wp2_with fail
  rw [HW0.out]
  refine Hn.out.mono ?_
  rintro e w1 ⟨A, n, k, rfl, hn, ho, hb⟩
  clear Hn
  have Hl := Lib.hid (own_len ho)
  have Hb1 := Lib.hid (Hbx.out.below hb hlt0)
  have B1 := Lib.hid (B0.out.trans (hb.mono (Nat.le_of_lt hlt0)))
  have hs1 := B1.out.size
  have hlt1 := Hb1.out.lt
  have y0 : w1.cell? ⟨w.heap.size, 0, none⟩ = some (.string ⟨#[]⟩) := Hb1.out.at_ 0 _ rfl
  have y1 : w1.cell? ⟨w.heap.size, 1, none⟩ = some (.int .i64 0) := Hb1.out.at_ 1 _ rfl
  have y2 : w1.cell? ⟨w.heap.size, 2, none⟩ = some (.int .i64 0) := Hb1.out.at_ 2 _ rfl
  have y3 : w1.cell? ⟨w.heap.size, 3, none⟩ = some (.int .i64 0) := Hb1.out.at_ 3 _ rfl
  have y4 : w1.cell? ⟨w.heap.size, 4, none⟩ = some (.int .i64 0) := Hb1.out.at_ 4 _ rfl
  have f0 := Hb1.out.fz 0
  have f1 := Hb1.out.fz 1
  have f2 := Hb1.out.fz 2
  have f3 := Hb1.out.fz 3
  have f4 := Hb1.out.fz 4
  by_cases h4 : n = 4
  · subst h4
    have hl4 : (rReadL (Lib.cut s.data.toList [32]).2.1).1.length = 4 := Hl.out
    obtain ⟨x, y, u, v, hxs⟩ := four_of hl4
    have hI : iRC s.data.toList = if (rCheckText (rCk (Lib.cut s.data.toList [32]).1 [x, y, u, v])).data.toList = s.data.toList then (rCk (Lib.cut s.data.toList [32]).1 [x, y, u, v], true) else (CheckR.zero, false) := by
      unfold iRC
      rw [if_pos hl4, hxs]
    have HI2 := Lib.hid hI
    have hsz : (⟨(Lib.cut s.data.toList [32]).1.toArray⟩ : ByteArray).size ≤ 1048576 := by rw [mk_len]; omega
    have hck : rCk (Lib.cut s.data.toList [32]).1 [x, y, u, v] = ⟨⟨(Lib.cut s.data.toList [32]).1.toArray⟩, x, y, u, v⟩ := rfl
    rw [hck] at HI2
    rw [hxs] at ho
    clear hI hck hl4 hxs Hl HI
    generalize (⟨(Lib.cut s.data.toList [32]).1.toArray⟩ : ByteArray) = a at *
    generalize (Lib.cut s.data.toList [32]).1 = l1 at *
    generalize (Lib.cut s.data.toList [32]).2.1 = l2 at *
    have hA : ∃ g, A = some ⟨g, 0, none⟩ := by
      rcases ho.2 with ⟨_, e⟩ | ⟨g, cap, cur, e, _⟩
      · omega
      · injection e with e; exact ⟨g, e⟩
    obtain ⟨g, rfl⟩ := hA
    have c0 : w1.cell? ⟨g, 0, none⟩ = some (.int .i64 x) := (ho.cellAt (j := 0) (by omega)).trans rfl
    have c1 : w1.cell? ⟨g, 1, none⟩ = some (.int .i64 y) := (ho.cellAt (j := 1) (by omega)).trans rfl
    have c2 : w1.cell? ⟨g, 2, none⟩ = some (.int .i64 u) := (ho.cellAt (j := 2) (by omega)).trans rfl
    have c3 : w1.cell? ⟨g, 3, none⟩ = some (.int .i64 v) := (ho.cellAt (j := 3) (by omega)).trans rfl
    have hg : g < w1.heap.size := (ho.block_lt _ rfl).2.2.2
    have hne : w.heap.size ≠ w1.heap.size := by omega
    clear ho hb
    go_wp2_with fail
    go_region
    all_goals
      have b2 : Below w1.heap.size w1 ((w1.alloc (.cells #[.string a, .int .i64 x, .int .i64 y, .int .i64 u, .int .i64 v] 39)).drew) := ((Below.refl _ _).alloc (Nat.le_refl _) _).drew
      have hx2 : HC ((w1.alloc (.cells #[.string a, .int .i64 x, .int .i64 y, .int .i64 u, .int .i64 v] 39)).drew) w1.heap.size [.string a, .int .i64 x, .int .i64 y, .int .i64 u, .int .i64 v] := ⟨fun j u hu => by simpa using hu, fun j => by simp, by simp⟩
      have Ht2 := Lib.hid (ht.below (B1.out.trans (b2.mono hs1)))
      have Hb2 := Lib.hid (Hb1.out.below b2 hlt1)
      have B2 := Lib.hid (B1.out.trans (b2.mono hs1))
      generalize hw2 : (w1.alloc (.cells #[.string a, .int .i64 x, .int .i64 y, .int .i64 u, .int .i64 v] 39)).drew = w2 at *
      have hlt2 := hx2.lt
      have hlt3 := Hb2.out.lt
      have HT := Lib.hid (implCheckText_any (a0 := a) (a1 := x) (a2 := y) (a3 := u) (a4 := v) (w := w2) hsz Ht2.out.1)
      clear hw2 b2 c0 c1 c2 c3 y0 y1 y2 y3 y4 f0 f1 f2 f3 f4
      have e0 : w2.cell? ⟨w1.heap.size, 0, none⟩ = some (.string a) := hx2.at_ 0 _ rfl
      have e1 : w2.cell? ⟨w1.heap.size, 1, none⟩ = some (.int .i64 x) := hx2.at_ 1 _ rfl
      have e2 : w2.cell? ⟨w1.heap.size, 2, none⟩ = some (.int .i64 y) := hx2.at_ 2 _ rfl
      have e3 : w2.cell? ⟨w1.heap.size, 3, none⟩ = some (.int .i64 u) := hx2.at_ 3 _ rfl
      have e4 : w2.cell? ⟨w1.heap.size, 4, none⟩ = some (.int .i64 v) := hx2.at_ 4 _ rfl
      go_wp2_with fail
      refine HT.out.mono ?_
      rintro e w3 ⟨rfl, b3⟩
      have Hx3 := Lib.hid (hx2.below b3 hlt2)
      have Hb3 := Lib.hid (Hb2.out.below b3 hlt3)
      have hs2 := B2.out.size
      have B3 := Lib.hid (B2.out.trans (b3.mono hs2))
      clear b3 hx2 HT e0 e1 e2 e3 e4
      have x0 : w3.cell? ⟨w1.heap.size, 0, none⟩ = some (.string a) := Hx3.out.at_ 0 _ rfl
      have x1 : w3.cell? ⟨w1.heap.size, 1, none⟩ = some (.int .i64 x) := Hx3.out.at_ 1 _ rfl
      have x2 : w3.cell? ⟨w1.heap.size, 2, none⟩ = some (.int .i64 y) := Hx3.out.at_ 2 _ rfl
      have x3 : w3.cell? ⟨w1.heap.size, 3, none⟩ = some (.int .i64 u) := Hx3.out.at_ 3 _ rfl
      have x4 : w3.cell? ⟨w1.heap.size, 4, none⟩ = some (.int .i64 v) := Hx3.out.at_ 4 _ rfl
      have y0 : w3.cell? ⟨w.heap.size, 0, none⟩ = some (.string ⟨#[]⟩) := Hb3.out.at_ 0 _ rfl
      have y1 : w3.cell? ⟨w.heap.size, 1, none⟩ = some (.int .i64 0) := Hb3.out.at_ 1 _ rfl
      have y2 : w3.cell? ⟨w.heap.size, 2, none⟩ = some (.int .i64 0) := Hb3.out.at_ 2 _ rfl
      have y3 : w3.cell? ⟨w.heap.size, 3, none⟩ = some (.int .i64 0) := Hb3.out.at_ 3 _ rfl
      have y4 : w3.cell? ⟨w.heap.size, 4, none⟩ = some (.int .i64 0) := Hb3.out.at_ 4 _ rfl
      have f0 := Hb3.out.fz 0
      have f1 := Hb3.out.fz 1
      have f2 := Hb3.out.fz 2
      have f3 := Hb3.out.fz 3
      have f4 := Hb3.out.fz 4
      by_cases hq : (rCheckText ⟨a, x, y, u, v⟩).data.toList = s.data.toList
      · have HF : Hid (rRC s.data.toList = (⟨a, x, y, u, v⟩, true)) := Lib.hid (by rw [← HR.out, HI2.out, if_pos hq])
        have hqb : ((rCheckText ⟨a, x, y, u, v⟩).toList == s.toList) = true := by rw [beq_iff_eq, ByteArray.toList_eq, ByteArray.toList_eq]; exact hq
        have HZ := Lib.hid (Hb3.out.set5 rfl (.string a) (.int .i64 x) (.int .i64 y) (.int .i64 u) (.int .i64 v))
        have HB := Lib.hid (below_set5 B3.out (Nat.le_refl _) (.string a) (.int .i64 x) (.int .i64 y) (.int .i64 u) (.int .i64 v))
        generalize rCheckText ⟨a, x, y, u, v⟩ = tx at *
        clear HI2 hq HR
        go_wp2_with fail
        generalize ((((w3.setCell ⟨w.heap.size, 0, none⟩ (.string a)).setCell ⟨w.heap.size, 1, none⟩ (.int .i64 x)).setCell ⟨w.heap.size, 2, none⟩ (.int .i64 y)).setCell ⟨w.heap.size, 3, none⟩ (.int .i64 u)).setCell ⟨w.heap.size, 4, none⟩ (.int .i64 v) = w5 at *
        have z0 : w5.cell? ⟨w.heap.size, 0, none⟩ = some (.string a) := HZ.out.at_ 0 _ rfl
        have z1 : w5.cell? ⟨w.heap.size, 1, none⟩ = some (.int .i64 x) := HZ.out.at_ 1 _ rfl
        have z2 : w5.cell? ⟨w.heap.size, 2, none⟩ = some (.int .i64 y) := HZ.out.at_ 2 _ rfl
        have z3 : w5.cell? ⟨w.heap.size, 3, none⟩ = some (.int .i64 u) := HZ.out.at_ 3 _ rfl
        have z4 : w5.cell? ⟨w.heap.size, 4, none⟩ = some (.int .i64 v) := HZ.out.at_ 4 _ rfl
        refine bodyPost_ret (v := .tuple #[(CheckR.mk a x y u v).val, .bool true]) ?_ rfl ?_
        · simp [results, Tryz.results16, go_sem, CheckR.val, z0, z1, z2, z3, z4]
        · exact ⟨by rw [HF.out], HB.out⟩
      · have HF : Hid (rRC s.data.toList = (CheckR.zero, false)) := Lib.hid (by rw [← HR.out, HI2.out, if_neg hq])
        have hqb : ((rCheckText ⟨a, x, y, u, v⟩).toList == s.toList) = false := by rw [beq_eq_false_iff_ne, ByteArray.toList_eq, ByteArray.toList_eq]; exact hq
        have HZ := Lib.hid (Hb3.out.set5 rfl (.string ⟨#[]⟩) (.int .i64 0) (.int .i64 0) (.int .i64 0) (.int .i64 0))
        have HB := Lib.hid (below_set5 B3.out (Nat.le_refl _) (.string ⟨#[]⟩) (.int .i64 0) (.int .i64 0) (.int .i64 0) (.int .i64 0))
        generalize rCheckText ⟨a, x, y, u, v⟩ = tx at *
        clear HI2 hq HR
        go_wp2_with fail
        generalize ((((w3.setCell ⟨w.heap.size, 0, none⟩ (.string ⟨#[]⟩)).setCell ⟨w.heap.size, 1, none⟩ (.int .i64 0)).setCell ⟨w.heap.size, 2, none⟩ (.int .i64 0)).setCell ⟨w.heap.size, 3, none⟩ (.int .i64 0)).setCell ⟨w.heap.size, 4, none⟩ (.int .i64 0) = w5 at *
        have z0 : w5.cell? ⟨w.heap.size, 0, none⟩ = some (.string ⟨#[]⟩) := HZ.out.at_ 0 _ rfl
        have z1 : w5.cell? ⟨w.heap.size, 1, none⟩ = some (.int .i64 0) := HZ.out.at_ 1 _ rfl
        have z2 : w5.cell? ⟨w.heap.size, 2, none⟩ = some (.int .i64 0) := HZ.out.at_ 2 _ rfl
        have z3 : w5.cell? ⟨w.heap.size, 3, none⟩ = some (.int .i64 0) := HZ.out.at_ 3 _ rfl
        have z4 : w5.cell? ⟨w.heap.size, 4, none⟩ = some (.int .i64 0) := HZ.out.at_ 4 _ rfl
        refine bodyPost_ret (v := .tuple #[CheckR.zero.val, .bool false]) ?_ rfl ?_
        · simp [results, Tryz.results16, go_sem, CheckR.val, CheckR.zero, z0, z1, z2, z3, z4]
          try rfl
        · exact ⟨by rw [HF.out], HB.out⟩
  · have h4b : ((n : Int) == 4) = false := by rw [beq_eq_false_iff_ne]; omega
    have HF : Hid (rRC s.data.toList = (CheckR.zero, false)) := Lib.hid (by rw [← HR.out]; unfold iRC; rw [if_neg (by rw [Hl.out]; exact h4)])
    have HZ := Lib.hid (Hb1.out.set5 rfl (.string ⟨#[]⟩) (.int .i64 0) (.int .i64 0) (.int .i64 0) (.int .i64 0))
    have HB := Lib.hid (below_set5 B1.out (Nat.le_refl _) (.string ⟨#[]⟩) (.int .i64 0) (.int .i64 0) (.int .i64 0) (.int .i64 0))
    rw [h4b]
    go_wp2_with fail
    generalize ((((w1.setCell ⟨w.heap.size, 0, none⟩ (.string ⟨#[]⟩)).setCell ⟨w.heap.size, 1, none⟩ (.int .i64 0)).setCell ⟨w.heap.size, 2, none⟩ (.int .i64 0)).setCell ⟨w.heap.size, 3, none⟩ (.int .i64 0)).setCell ⟨w.heap.size, 4, none⟩ (.int .i64 0) = w5 at *
    have z0 : w5.cell? ⟨w.heap.size, 0, none⟩ = some (.string ⟨#[]⟩) := HZ.out.at_ 0 _ rfl
    have z1 : w5.cell? ⟨w.heap.size, 1, none⟩ = some (.int .i64 0) := HZ.out.at_ 1 _ rfl
    have z2 : w5.cell? ⟨w.heap.size, 2, none⟩ = some (.int .i64 0) := HZ.out.at_ 2 _ rfl
    have z3 : w5.cell? ⟨w.heap.size, 3, none⟩ = some (.int .i64 0) := HZ.out.at_ 3 _ rfl
    have z4 : w5.cell? ⟨w.heap.size, 4, none⟩ = some (.int .i64 0) := HZ.out.at_ 4 _ rfl
    refine bodyPost_ret (v := .tuple #[CheckR.zero.val, .bool false]) ?_ rfl ?_
    · simp [results, Tryz.results16, go_sem, CheckR.val, CheckR.zero, z0, z1, z2, z3, z4]
      try rfl
    · exact ⟨by rw [HF.out], HB.out⟩
end Go.Proofs.YtickepianllblaaGreatDoor
