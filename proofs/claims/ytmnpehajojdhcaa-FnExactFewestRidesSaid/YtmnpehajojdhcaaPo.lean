/- Loads: FewestRides: who fits alone; the reference's contract. -/
import Derived.Test.YtmnpehajojdhcaaPn
namespace Go.Proofs.Ytmnpehajojdhcaa
open Go.RowKit
set_option maxRecDepth 100000
set_option linter.unusedVariables false
set_option linter.unusedSimpArgs false

set_option maxHeartbeats 1000000 in
theorem l17Alone_any {A : Option Addr} {n c B : Nat} {l : List GroupR} {p : Addr} {r : RoomR} {w : World} (h : Reads w B 4 A n (l.flatMap GroupR.cells)) (hB : B ≤ w.heap.size) (hn : n ≤ 12) (hg : GOk l)
    (h0 : w.cell? p = some (.int .i64 r.People)) (h1 : w.cell? ⟨p.block, p.off + 1, none⟩ = some (.int .i64 r.Bikes)) (h2 : w.cell? ⟨p.block, p.off + 2, none⟩ = some (.int .i64 r.Kilos)) :
    Calls Try.prog 52 #[.slice A n c, .pointer (some p)] w fun e w' => e = .returned (.bool (aloneB l r)) ∧ Below w.heap.size w w' := by
  have HL := Lib.hid (GroupR.count h)
  have Hg := Lib.hid hg
  have hp : p.block < w.heap.size := block_lt_of_cell h0
  have H0 := Lib.hid h0
  have H1 := Lib.hid h1
  have H2 := Lib.hid h2
  have Hh := Lib.hid h
  clear hg h0 h1 h2 h
  go_enter Try.func52, Try.ntmps52
  go_wp2_with fail
  go_loopg [5] n (fun gk vk wr => ∃ i : Nat, i ≤ n ∧ gk + i = n ∧ vk = .int .i64 (i : Int) ∧ allTo (fun i => fitsW l r [i]) i = true ∧ Below w.heap.size w wr)
  case atStart => exact ⟨0, by omega, by omega, rfl, rfl, Below.refl _ _⟩
  case round =>
    obtain ⟨i, hi, hgk, rfl, hall, hb⟩ := hrel
    have Hgk := Lib.hid hgk
    have Hall := Lib.hid hall
    have hbs := hb.size
    clear hgk hall
    have hqi : IntKind.i64.wrap ((i : Int) + 1) = (i : Int) + 1 := IntWalk.i64_in _ (by omega)
    by_cases hlt : i < n
    · have hi1 : (i : Int) < (n : Int) := by omega
      have pre : Below w.heap.size w (wr.alloc (.cells #[.int .i64 (i : Int)] 2)) := hb.alloc hbs _
      have hone : Ints (wr.alloc (.cells #[.int .i64 (i : Int)] 2)) (wr.alloc (.cells #[.int .i64 (i : Int)] 2)).heap.size (some ⟨wr.heap.size, 0, none⟩) 1 (ciN [i]) := (own_one wr wr.heap.size 2 (.int .i64 (i : Int)) (Nat.le_refl _)).reads
      have Hf : Hid (Calls Try.prog 81 #[.slice A n c, .slice (some ⟨wr.heap.size, 0, none⟩) 1 1, .pointer (some p)] (wr.alloc (.cells #[.int .i64 (i : Int)] 2)) fun e w' => e = .returned (.bool (fitsW l r [i])) ∧ Below w.heap.size w w') := Lib.hid
        ((l17Fits_any (ws := [i]) (cw := 1) (c := c) (p := p) (r := r) (Reads.below Hh.out pre hB) (by have := pre.size; omega) hn Hg.out hone (Nat.le_refl _) (by intro y hy; simp at hy; omega) (by simp) ((pre.cell (p := p) hp).trans H0.out) ((pre.cell (p := ⟨p.block, p.off + 1, none⟩) hp).trans H1.out) ((pre.cell (p := ⟨p.block, p.off + 2, none⟩) hp).trans H2.out)).mono fun e w' ⟨he, hb2⟩ => ⟨he, pre.trans (hb2.mono pre.size)⟩)
      clear hone pre
      go_wp2_with fail
      refine Hf.out.mono ?_
      rintro e w2 ⟨rfl, b2⟩
      cases hf : fitsW l r [i] with
      | false =>
        have Ha : Hid (aloneB l r = false) := Lib.hid (by unfold aloneB; exact allTo_false (k := i) (by rw [HL.out]; exact hlt) hf)
        clear hf
        go_wp2_with fail
        go_ret
        exact ⟨ret_bool (by rw [Ha.out]), b2⟩
      | true =>
        have Ha : Hid (allTo (fun i => fitsW l r [i]) (i + 1) = true) := Lib.hid (by rw [allTo_succ, Hall.out, hf]; rfl)
        clear hf
        go_wp2_with fail
        have hgk := Hgk.out
        go_roundg (gk - 1)
        case rel => exact ⟨i + 1, by omega, by omega, by go_num, Ha.out, b2⟩
        case measure => omega
    · have hie : i = n := by omega
      have Ha : Hid (aloneB l r = true) := Lib.hid (by unfold aloneB; rw [HL.out, ← hie]; exact Hall.out)
      have hi1 : ¬ (i : Int) < (n : Int) := by omega
      clear hie
      go_wp2_with fail
      go_ret
      exact ⟨ret_bool (by rw [Ha.out]), hb⟩
theorem rF_no {l : List GroupR} {r : RoomR} {b : Int} (h : (groupBAll l && roomB r.People r.Bikes r.Kilos) = false) : rFewestRides l r b = ([], 0, 1) := by unfold rFewestRides; rw [h]; rfl
theorem rF_range {l : List GroupR} {r : RoomR} {b : Int} (h : (groupBAll l && roomB r.People r.Bikes r.Kilos) = true) (hb : inB b 1 20000 = false) : rFewestRides l r b = ([], 0, 2) := by unfold rFewestRides; rw [h, hb]; rfl
theorem rF_big {l : List GroupR} {r : RoomR} {b : Int} (h : (groupBAll l && roomB r.People r.Bikes r.Kilos) = true) (hb : inB b 1 20000 = true) (ha : aloneB l r = false) : rFewestRides l r b = ([], 0, 3) := by unfold rFewestRides; rw [h, hb, ha]; rfl
theorem rF_go {l : List GroupR} {r : RoomR} {b : Int} {q : FS} (h : (groupBAll l && roomB r.People r.Bikes r.Kilos) = true) (hb : inB b 1 20000 = true) (ha : aloneB l r = true) (hq : fs l r (l.length + 1) [] 0 ⟨b.toNat, false, none⟩ = q) :
    rFewestRides l r b = if q.spent then (([], 0, 5) : List Int × Int × Int) else (ciN (fbL q), fbZ q, 0) := by
  unfold rFewestRides; rw [h, hb, ha, hq]; rfl
theorem fok0 (n : Nat) (b : Nat) : FOk n ⟨b, false, none⟩ := fun g m e => by cases e
theorem fbL_len {n : Nat} {q : FS} (h : FOk n q) : (fbL q).length ≤ n := by
  cases hb : q.best with
  | none => rw [(fb_none hb).1]; simp
  | some x => obtain ⟨g, m⟩ := x; rw [(fb_some hb).1]; exact Nat.le_of_eq (h g m hb).1
set_option maxHeartbeats 2000000 in
theorem specFewestRides_any {A : Option Addr} {n c B : Nat} {l : List GroupR} {a0 a1 a2 budget : Int} {w : World} (h : Reads w B 4 A n (l.flatMap GroupR.cells)) (hB : B ≤ w.heap.size) (hc : n ≤ c) (hn : n ≤ 1048576) (hF : ∀ x ∈ l, x.Id.size ≤ 1048576) :
    Calls Try.prog 20 #[.slice A n c, .agg #[.int .i64 a0, .int .i64 a1, .int .i64 a2], .int .i64 budget] w fun e w' => ∃ A2 n2 c2, e = .returned (.tuple #[.slice A2 n2 c2, .int .i64 (rFewestRides l ⟨a0, a1, a2⟩ budget).2.1, .int .i64 (rFewestRides l ⟨a0, a1, a2⟩ budget).2.2]) ∧ n2 ≤ 1048576 ∧
      Own w' w.heap.size 2 1 A2 n2 c2 ((rFewestRides l ⟨a0, a1, a2⟩ budget).1.map (Value.int .i64)) ∧ Below w.heap.size w w' := by
  have HL := Lib.hid (GroupR.count h)
  obtain ⟨w0, hw0⟩ : ∃ w0, w.alloc (.cells #[.int .i64 a0, .int .i64 a1, .int .i64 a2] 36) = w0 := ⟨_, rfl⟩
  have b0 : Below w.heap.size w w0 := by rw [← hw0]; exact (Below.refl _ _).alloc (Nat.le_refl _) _
  have hbx : HC w0 w.heap.size [.int .i64 a0, .int .i64 a1, .int .i64 a2] := by rw [← hw0]; exact ⟨fun j u hu => by simpa using hu, fun j => by simp, by simp⟩
  have HW0 := Lib.hid hw0
  have hs0 := b0.size
  have Hbe : Hid (beginI l a0 a1 a2 budget = if groupBAll l && roomB a0 a1 a2 then (if inB budget 1 20000 then 0 else 2) else 1) := Lib.hid rfl
  have Hgd : Hid (Calls Try.prog 44 #[.slice A n c, .pointer (some ⟨w.heap.size, 0, none⟩), .int .i64 budget] w0 fun e w' => e = .returned (.int .i64 (beginI l a0 a1 a2 budget)) ∧ Below w.heap.size w w' ∧ HC w' w.heap.size [.int .i64 a0, .int .i64 a1, .int .i64 a2]) := Lib.hid
    ((l17Begin_any (p := ⟨w.heap.size, 0, none⟩) (Reads.below h b0 hB) (by omega) hn hF (hbx.at_ 0 _ rfl) (hbx.at_ 1 _ rfl) (hbx.at_ 2 _ rfl)).mono fun e w' ⟨he, hb⟩ => ⟨he, b0.trans (hb.mono hs0), hbx.below hb hbx.lt⟩)
  clear hw0 b0 hbx
  cases hv : groupBAll l && roomB a0 a1 a2 with
  | false =>
    have Hg : Hid (beginI l a0 a1 a2 budget = 1) := Lib.hid (by rw [Hbe.out, hv]; rfl)
    have Hr := Lib.hid (rF_no (r := ⟨a0, a1, a2⟩) (b := budget) hv)
    clear hv
    go_enter Try.func20, Try.ntmps20
    go_wp2_with fail
    rw [HW0.out]
    refine Hgd.out.mono ?_
    rintro e w1 ⟨rfl, b1, hx1⟩
    rw [Hg.out]
    clear hx1
    go_wp2_with fail
    go_ret3
    exact ⟨none, 0, 0, by rw [Hr.out]; rfl, by omega, by rw [Hr.out]; exact Own.nil _ _ _ _, b1⟩
  | true =>
    cases hi : inB budget 1 20000 with
    | false =>
      have Hg : Hid (beginI l a0 a1 a2 budget = 2) := Lib.hid (by rw [Hbe.out, hv, hi]; rfl)
      have Hr := Lib.hid (rF_range (r := ⟨a0, a1, a2⟩) hv hi)
      clear hv hi
      go_enter Try.func20, Try.ntmps20
      go_wp2_with fail
      rw [HW0.out]
      refine Hgd.out.mono ?_
      rintro e w1 ⟨rfl, b1, hx1⟩
      rw [Hg.out]
      clear hx1
      go_wp2_with fail
      go_ret3
      exact ⟨none, 0, 0, by rw [Hr.out]; rfl, by omega, by rw [Hr.out]; exact Own.nil _ _ _ _, b1⟩
    | true =>
      have Hg : Hid (beginI l a0 a1 a2 budget = 0) := Lib.hid (by rw [Hbe.out, hv, hi]; rfl)
      have hbud := inB_true.1 hi
      have hv2 := hv
      rw [Bool.and_eq_true] at hv2
      have hn12 : n ≤ 12 := by have := gok_len hv2.1; rw [HL.out] at this; exact this
      have Hgk := Lib.hid (gok_of hv2.1)
      have Hh := Lib.hid h
      have Hv := Lib.hid hv
      have Hi := Lib.hid hi
      clear h hv hi hv2
      go_enter Try.func20, Try.ntmps20
      go_wp2_with fail
      rw [HW0.out]
      refine Hgd.out.mono ?_
      rintro e w1 ⟨rfl, b1, hx1⟩
      rw [Hg.out]
      have hs1 := b1.size
      have hltx := hx1.lt
      have Hal : Hid (Calls Try.prog 52 #[.slice A n c, .pointer (some ⟨w.heap.size, 0, none⟩)] w1 fun e w' => e = .returned (.bool (aloneB l ⟨a0, a1, a2⟩)) ∧ Below w.heap.size w w' ∧ HC w' w.heap.size [.int .i64 a0, .int .i64 a1, .int .i64 a2]) := Lib.hid
        ((l17Alone_any (p := ⟨w.heap.size, 0, none⟩) (r := ⟨a0, a1, a2⟩) (Reads.below Hh.out b1 hB) (by omega) hn12 Hgk.out (hx1.at_ 0 _ rfl) (hx1.at_ 1 _ rfl) (hx1.at_ 2 _ rfl)).mono fun e w' ⟨he, hb⟩ => ⟨he, b1.trans (hb.mono hs1), hx1.below hb hltx⟩)
      clear b1 hx1 hs1 hltx
      go_wp2_with fail
      refine Hal.out.mono ?_
      rintro e w2 ⟨rfl, b2, hx2⟩
      have hs2 := b2.size
      have hltx := hx2.lt
      cases ha : aloneB l ⟨a0, a1, a2⟩ with
      | false =>
        have Hr := Lib.hid (rF_big (r := ⟨a0, a1, a2⟩) Hv.out Hi.out ha)
        clear ha hx2
        go_wp2_with fail
        go_ret3
        exact ⟨none, 0, 0, by rw [Hr.out]; rfl, by omega, by rw [Hr.out]; exact Own.nil _ _ _ _, b2⟩
      | true =>
        obtain ⟨q, hq⟩ : ∃ q, fs l ⟨a0, a1, a2⟩ (l.length + 1) [] 0 ⟨budget.toNat, false, none⟩ = q := ⟨_, rfl⟩
        have Hr := Lib.hid (rF_go (r := ⟨a0, a1, a2⟩) Hv.out Hi.out ha hq)
        have Hqok : Hid (FOk n q) := Lib.hid (by
          have := fs_ok l ⟨a0, a1, a2⟩ (l.length + 1) [] 0 ⟨budget.toNat, false, none⟩ (by simp) (by simp) (fok0 _ _)
          rw [hq, HL.out] at this
          exact this)
        obtain ⟨bn, rfl⟩ := Int.eq_ofNat_of_zero_le (show 0 ≤ budget by omega)
        have Hq := Lib.hid hq
        have pre : Below w2.heap.size w2 (w2.alloc (.cells #[.slice A n c, .pointer (some ⟨w.heap.size, 0, none⟩), .slice none 0 0, .slice none 0 0, .int .i64 (-1), .int .i64 0, .int .i64 (bn : Int)] 98)) := (Below.refl _ _).alloc (Nat.le_refl _) _
        have hHC : HC (w2.alloc (.cells #[.slice A n c, .pointer (some ⟨w.heap.size, 0, none⟩), .slice none 0 0, .slice none 0 0, .int .i64 (-1), .int .i64 0, .int .i64 (bn : Int)] 98)) w2.heap.size (nvs A n c w.heap.size (.slice none ([] : List Nat).length 0) none 0 0 (-1) (bn - bn) bn) :=
          ⟨fun j u hu => by simpa [nvs] using hu, fun j => by simp, by simp⟩
        have b3 := b2.trans (pre.mono hs2)
        have hr := (Reads.below Hh.out b3 hB).more (show B ≤ w.heap.size by omega)
        have HHC := Lib.hid hHC
        have HB3 := Lib.hid b3
        have HR := Lib.hid hr
        have HX := Lib.hid (hx2.below pre hltx)
        clear hHC pre b3 hr hx2 ha hq
        go_wp2_with fail
        generalize w2.alloc (.cells #[.slice A n c, .pointer (some ⟨w.heap.size, 0, none⟩), .slice none 0 0, .slice none 0 0, .int .i64 (-1), .int .i64 0, .int .i64 (bn : Int)] 98) = w3 at *
        have hbz : ((bn : Int)).toNat = bn := by omega
        have hq2 : fs l ⟨a0, a1, a2⟩ (n + 1) [] 0 ⟨bn, false, none⟩ = q := by have := Hq.out; rwa [hbz, HL.out] at this
        have hsz2 : w2.heap.size < w3.heap.size := HHC.out.lt
        have Hcall := Lib.hid (fnext_any (n + 1) A none none n c 0 0 0 w2.heap.size w.heap.size bn 0 l ⟨a0, a1, a2⟩ [] ⟨bn, false, none⟩ w3 HR.out hn12 Hgk.out (by simp) (by simp) (by simp) (by simp) hltx (by omega) (Nat.le_refl _) rfl (fok0 _ _) HX.out HHC.out (Own.nil _ _ _ _) (Own.nil _ _ _ _) (by intro a a' e; cases e))
        rw [hq2] at Hcall
        refine Hcall.out.mono ?_
        rintro e w4 ⟨vw, vn, Ab, nb, cb, rfl, hc4, hb4, ht4, hif⟩
        have b4 := HB3.out.trans ((touch2_belowM ht4 (by omega)).mono (show w.heap.size ≤ w2.heap.size by omega))
        have d3 : w4.cell? ⟨w2.heap.size, 3, none⟩ = some (.slice Ab nb cb) := hc4.at_ 3 _ rfl
        have d4 : w4.cell? ⟨w2.heap.size, 4, none⟩ = some (.int .i64 (fbZ q)) := hc4.at_ 4 _ rfl
        have hlt4 := hc4.lt
        have hnb := hb4.len
        have HB4 := Lib.hid hb4
        clear hc4 hb4 ht4 hif hq2 HHC HX
        cases hsp : q.spent with
        | true =>
          have Hsp := Lib.hid hsp
          clear hsp
          go_wp2_with fail
          go_ret3
          exact ⟨none, 0, 0, by rw [Hr.out, Hsp.out]; rfl, by omega, by rw [Hr.out, Hsp.out]; exact Own.nil _ _ _ _, b4⟩
        | false =>
          have Hsp := Lib.hid hsp
          have hg0 := fbL_len Hqok.out
          have hnb2 : nb ≤ 12 := by simp [ciN] at hnb; omega
          clear hsp hnb hg0
          have HOw : Hid (Calls Try.prog 46 #[.slice Ab nb cb] w4.drew fun e w' => ∃ A' c', e = .returned (.slice A' nb c') ∧ Own w' w4.heap.size 2 1 A' nb c' ((ciN (fbL q)).map (Value.int .i64)) ∧ Below w4.heap.size w4 w') := Lib.hid
            ((l00Own_any (w := w4.drew) (B := w4.heap.size) HB4.out.reads (Nat.le_refl _) (by omega)).mono fun e w' ⟨A', c', he, ho, hb⟩ => ⟨A', c', he, ho, ((Below.refl _ _).drew).trans hb⟩)
          have HKA : Hid (∀ W : World, Below w4.heap.size w4 W → (W.cell? ⟨w2.heap.size, 3, none⟩ = some (.slice Ab nb cb) ∧ W.cell? ⟨w2.heap.size, 4, none⟩ = some (.int .i64 (fbZ q)))) := Lib.hid (fun W hW => ⟨(hW.cell hlt4).trans d3, (hW.cell hlt4).trans d4⟩)
          have hD : Below w4.heap.size w4 w4.drew := (Below.refl _ _).drew
          go_wp2_with fail
          go_region_held3 (fun W => W.cell? ⟨w2.heap.size, 3, none⟩ = some (.slice Ab nb cb) ∧ W.cell? ⟨w2.heap.size, 4, none⟩ = some (.int .i64 (fbZ q)))
            ((with_reducible refine HKA.out _ ?_; (first | with_reducible assumption | with_reducible exact hD)))
            ((first
              | (go_at_call 46; refine HOw.out.mono ?_; rintro e w5 ⟨A5, c5, rfl, o5, hb5⟩)
              | fail))
          go_wp2_with fail
          go_ret3
          exact ⟨A5, nb, c5, by rw [Hr.out, Hsp.out]; rfl, by omega, by rw [Hr.out, Hsp.out]; exact o5.mono (show w.heap.size ≤ w4.heap.size by have := b4.size; omega), b4.trans (hb5.mono b4.size)⟩
end Go.Proofs.Ytmnpehajojdhcaa
