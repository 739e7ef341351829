/- Loads: whether some groups fit in a car; the search for the most people as a plain function. -/
import Derived.Test.YtmnpehajojdhcaaPg
namespace Go.Proofs.Ytmnpehajojdhcaa
open Go.RowKit
set_option maxRecDepth 100000
set_option linter.unusedVariables false
set_option linter.unusedSimpArgs false

def ciN (ws : List Nat) : List Int := ws.map (fun k : Nat => (k : Int))
theorem ciN_len (ws : List Nat) : (ciN ws).length = ws.length := by simp [ciN]
theorem ciN_nth {ws : List Nat} {i : Nat} (h : i < ws.length) : nth (ciN ws) i = ((ws.getD i 0 : Nat) : Int) := by
  rw [nth_eq (by rw [ciN_len]; exact h)]; simp [ciN, List.getD, List.getElem?_eq_getElem h]
theorem getD_memN {ws : List Nat} {i : Nat} (h : i < ws.length) : ws.getD i 0 ∈ ws := by simp [List.getD, List.getElem?_eq_getElem h]
theorem take_snocN {ws : List Nat} {i : Nat} (h : i < ws.length) : ws.take (i + 1) = ws.take i ++ [ws.getD i 0] := by
  rw [List.take_succ_eq_append_getElem h]; simp [List.getD, List.getElem?_eq_getElem h]

set_option maxHeartbeats 1000000 in
theorem l17Fits_any {A Aw : Option Addr} {n c B cw Bw : Nat} {l : List GroupR} {ws : List Nat} {p : Addr} {r : RoomR} {w : World} (h : Reads w B 4 A n (l.flatMap GroupR.cells)) (hB : B ≤ w.heap.size) (hn : n ≤ 12) (hg : GOk l)
    (hw : Ints w Bw Aw ws.length (ciN ws)) (hBw : Bw ≤ w.heap.size) (hws : ∀ k ∈ ws, k < n) (hlen : ws.length ≤ 1000) (h0 : w.cell? p = some (.int .i64 r.People)) (h1 : w.cell? ⟨p.block, p.off + 1, none⟩ = some (.int .i64 r.Bikes)) (h2 : w.cell? ⟨p.block, p.off + 2, none⟩ = some (.int .i64 r.Kilos)) :
    Calls Try.prog 81 #[.slice A n c, .slice Aw ws.length cw, .pointer (some p)] w fun e w' => e = .returned (.bool (fitsW l r ws)) ∧ Below w.heap.size w w' := by
  have HL := Lib.hid (GroupR.count h)
  have Hg := Lib.hid hg
  have Hws := Lib.hid hws
  have Hfit : Hid (fitsW l r ws = (decide (sumG GroupR.People l ws ≤ r.People) && (decide (sumG GroupR.Bikes l ws ≤ r.Bikes) && decide (sumG kiloG l ws ≤ r.Kilos)))) := Lib.hid rfl
  have hp : p.block < w.heap.size := block_lt_of_cell h0
  have H0 := Lib.hid h0
  have H1 := Lib.hid h1
  have H2 := Lib.hid h2
  clear hg hws h0 h1 h2
  go_enter Try.func81, Try.ntmps81
  go_wp2_with fail
  go_loopg [7, 8, 9, 10] ws.length (fun gk v1 v2 v3 vk wr => ∃ i : Nat, i ≤ ws.length ∧ gk + i = ws.length ∧ vk = .int .i64 i ∧ v1 = .int .i64 (sumG GroupR.People l (ws.take i)) ∧ v2 = .int .i64 (sumG GroupR.Bikes l (ws.take i)) ∧ v3 = .int .i64 (sumG kiloG l (ws.take i)) ∧ Below w.heap.size w wr)
  case atStart => exact ⟨0, by omega, by omega, rfl, rfl, rfl, rfl, Below.refl _ _⟩
  case round =>
    obtain ⟨i, hi, hgk, rfl, rfl, rfl, rfl, hb⟩ := hrel
    have Hgk := Lib.hid hgk
    have hbs := hb.size
    clear hgk
    have hqi : IntKind.i64.wrap ((i : Int) + 1) = (i : Int) + 1 := IntWalk.i64_in _ (by omega)
    by_cases hlt : i < ws.length
    · obtain ⟨adw, rfl, hblw, hcw⟩ := Ints.at_ (Reads.below hw hb hBw) hlt
      rw [ciN_nth hlt] at hcw
      have hkm := Hws.out _ (getD_memN hlt)
      have Hsn1 := Lib.hid (sumG_snoc GroupR.People l (ws.take i) (ws.getD i 0))
      have Hsn2 := Lib.hid (sumG_snoc GroupR.Bikes l (ws.take i) (ws.getD i 0))
      have Hsn3 := Lib.hid (sumG_snoc kiloG l (ws.take i) (ws.getD i 0))
      rw [← take_snocN hlt] at Hsn1 Hsn2 Hsn3
      have hs := gok_sums Hg.out (ws := ws.take i) (fun k hk => by rw [HL.out]; exact Hws.out k (List.mem_of_mem_take hk))
      have hl2 : (ws.take i).length = i := by rw [List.length_take]; omega
      rw [hl2] at hs
      clear hl2
      generalize ws.getD i 0 = k at *
      obtain ⟨ad, rfl, hbl, hc0, hc1, hc2, hc3⟩ := GroupR.rd (Reads.below h hb hB) hkm
      have hk0 : (0 : Int) ≤ (k : Int) := by omega
      have hk1 : (k : Int) < (n : Int) := by omega
      have hi0 : (0 : Int) ≤ (i : Int) := by omega
      have hi1 : (i : Int) < (ws.length : Int) := by omega
      have hgx := Hg.out k (by rw [HL.out]; exact hkm)
      have hkb := gok_kilo Hg.out k (by rw [HL.out]; exact hkm)
      generalize sumG GroupR.People l (ws.take i) = s1 at *
      generalize sumG GroupR.Bikes l (ws.take i) = s2 at *
      generalize sumG kiloG l (ws.take i) = s3 at *
      have q1 : IntKind.i64.wrap (s1 + (GroupR.at_ l k).People) = s1 + (GroupR.at_ l k).People := IntWalk.i64_in _ (by omega)
      have q2 : IntKind.i64.wrap (s2 + (GroupR.at_ l k).Bikes) = s2 + (GroupR.at_ l k).Bikes := IntWalk.i64_in _ (by omega)
      have q3 : IntKind.i64.wrap (s3 + kiloG (GroupR.at_ l k)) = s3 + kiloG (GroupR.at_ l k) := IntWalk.i64_in _ (by omega)
      have pre : Below w.heap.size w (wr.alloc (.cells #[.string (GroupR.at_ l k).Id, .int .i64 (GroupR.at_ l k).People, .int .i64 (GroupR.at_ l k).Bikes, .int .i64 (GroupR.at_ l k).Kilos] 86)) := hb.alloc hbs _
      have d1 : (wr.alloc (.cells #[.string (GroupR.at_ l k).Id, .int .i64 (GroupR.at_ l k).People, .int .i64 (GroupR.at_ l k).Bikes, .int .i64 (GroupR.at_ l k).Kilos] 86)).cell? ⟨wr.heap.size, 0 + 1, none⟩ = some (.int .i64 (GroupR.at_ l k).People) := by simp
      have d2 : (wr.alloc (.cells #[.string (GroupR.at_ l k).Id, .int .i64 (GroupR.at_ l k).People, .int .i64 (GroupR.at_ l k).Bikes, .int .i64 (GroupR.at_ l k).Kilos] 86)).cell? ⟨wr.heap.size, 0 + 2, none⟩ = some (.int .i64 (GroupR.at_ l k).Bikes) := by simp
      have d3 : (wr.alloc (.cells #[.string (GroupR.at_ l k).Id, .int .i64 (GroupR.at_ l k).People, .int .i64 (GroupR.at_ l k).Bikes, .int .i64 (GroupR.at_ l k).Kilos] 86)).cell? ⟨wr.heap.size, 0 + 3, none⟩ = some (.int .i64 (GroupR.at_ l k).Kilos) := by simp
      have D1 := Lib.hid d1
      have D2 := Lib.hid d2
      have D3 := Lib.hid d3
      clear d1 d2 d3
      go_wp2_with fail
      refine (l17Kilos_any (p := ⟨wr.heap.size, 0, none⟩) (x := GroupR.at_ l k) D1.out D2.out D3.out hgx.1 hgx.2.1 hgx.2.2).mono ?_
      rintro e w' ⟨rfl, d, rfl⟩
      go_wp2_with fail
      have hgk := Hgk.out
      go_roundg (gk - 1)
      case rel => exact ⟨i + 1, by omega, by omega, by go_num, by rw [Hsn1.out], by rw [Hsn2.out], by rw [Hsn3.out], below_drewN pre d⟩
      case measure => omega
    · have hie : i = ws.length := by omega
      have e0 := (hb.cell (p := p) hp).trans H0.out
      have e1 := (hb.cell (p := ⟨p.block, p.off + 1, none⟩) hp).trans H1.out
      have e2 := (hb.cell (p := ⟨p.block, p.off + 2, none⟩) hp).trans H2.out
      have hd : ¬ (i : Int) < (ws.length : Int) := by omega
      have ht : ws.take i = ws := List.take_of_length_le (by omega)
      rw [ht]
      clear ht hie
      generalize sumG GroupR.People l ws = s1 at *
      generalize sumG GroupR.Bikes l ws = s2 at *
      generalize sumG kiloG l ws = s3 at *
      by_cases c1 : s1 ≤ r.People
      · have C1 := Lib.hid c1
        by_cases c2 : s2 ≤ r.Bikes
        · have C2 := Lib.hid c2
          go_wp2_with fail
          go_ret
          exact ⟨ret_bool (by rw [Hfit.out, decide_eq_true C1.out, decide_eq_true C2.out]; simp), hb⟩
        · have C2 := Lib.hid c2
          go_wp2_with fail
          go_ret
          exact ⟨ret_bool (by rw [Hfit.out, decide_eq_false (show ¬ s2 ≤ r.Bikes by have := C2.out; omega)]; simp), hb⟩
      · have C1 := Lib.hid c1
        go_wp2_with fail
        go_ret
        exact ⟨ret_bool (by rw [Hfit.out, decide_eq_false (show ¬ s1 ≤ r.People by have := C1.out; omega)]; simp), hb⟩

/-! ### plain: the most people -/
structure MS where
  left : Nat
  spent : Bool
  best : List Nat
  most : Int
def mput (l : List GroupR) (ws : List Nat) (s : MS) : MS := if s.most < sumG GroupR.People l ws then ⟨s.left - 1, false, ws, sumG GroupR.People l ws⟩ else ⟨s.left - 1, false, s.best, s.most⟩
def mkid (l : List GroupR) (r : RoomR) (rec : List Nat → Nat → MS → MS) (ws : List Nat) (s : MS) (k : Nat) : MS := if fitsW l r (ws ++ [k]) then rec (ws ++ [k]) (k + 1) s else s
def ms (l : List GroupR) (r : RoomR) : Nat → List Nat → Nat → MS → MS
  | 0, _, _, s => s
  | m + 1, ws, fr, s => if s.spent then s else if s.left = 0 then ⟨0, true, s.best, s.most⟩ else (List.range' fr (l.length - fr)).foldl (mkid l r (ms l r m) ws) (mput l ws s)
theorem ms_spent (l : List GroupR) (r : RoomR) (m : Nat) (ws : List Nat) (fr : Nat) (s : MS) (h : s.spent = true) : ms l r m ws fr s = s := by
  cases m with
  | zero => rfl
  | succ m => rw [ms, if_pos h]
theorem mkids_spent (l : List GroupR) (r : RoomR) (m : Nat) (ws : List Nat) : ∀ (ks : List Nat) (s : MS), s.spent = true → ks.foldl (mkid l r (ms l r m) ws) s = s := by
  intro ks
  induction ks with
  | nil => intro s _; rfl
  | cons k ks ih =>
    intro s h
    rw [List.foldl_cons]
    have : mkid l r (ms l r m) ws s k = s := by unfold mkid; rw [ms_spent _ _ _ _ _ _ h]; split <;> rfl
    rw [this]; exact ih s h
theorem mput_left (l : List GroupR) (ws : List Nat) (s : MS) : (mput l ws s).left = s.left - 1 ∧ (mput l ws s).spent = false := by unfold mput; split <;> exact ⟨rfl, rfl⟩
theorem ms_left (l : List GroupR) (r : RoomR) : ∀ (m : Nat) (ws : List Nat) (fr : Nat) (s : MS), (ms l r m ws fr s).left ≤ s.left := by
  intro m
  induction m with
  | zero => intro ws fr s; exact Nat.le_refl _
  | succ m ih =>
    intro ws fr s
    rw [ms]
    split
    · exact Nat.le_refl _
    · split
      · simp
      · refine Nat.le_trans ?_ (show (mput l ws s).left ≤ s.left by rw [(mput_left l ws s).1]; omega)
        generalize mput l ws s = s1
        generalize List.range' fr (l.length - fr) = ks
        induction ks generalizing s1 with
        | nil => exact Nat.le_refl _
        | cons k ks ihk =>
          rw [List.foldl_cons]
          refine Nat.le_trans (ihk _) ?_
          unfold mkid
          split
          · exact ih _ _ _
          · exact Nat.le_refl _
/-- What the search keeps: the best list is short, its number is not negative and small. -/
def MOk (n : Nat) (s : MS) : Prop := s.best.length ≤ n ∧ 0 ≤ s.most ∧ s.most ≤ 1000000
theorem mput_ok {l : List GroupR} {n : Nat} {ws : List Nat} {s : MS} (h : MOk n s) (hl : ws.length ≤ n) (hs : 0 ≤ sumG GroupR.People l ws ∧ sumG GroupR.People l ws ≤ 1000000) : MOk n (mput l ws s) := by
  unfold mput
  split
  · exact ⟨hl, hs⟩
  · exact h
theorem ms_ok {l : List GroupR} {r : RoomR} (hg : GOk l) (hn : l.length ≤ 12) : ∀ (m : Nat) (ws : List Nat) (fr : Nat) (s : MS), (∀ k ∈ ws, k < l.length) → ws.length ≤ fr → fr ≤ l.length → MOk l.length s → MOk l.length (ms l r m ws fr s) := by
  intro m
  induction m with
  | zero => intro ws fr s _ _ _ h; exact h
  | succ m ih =>
    intro ws fr s hws hwl hfr h
    rw [ms]
    split
    · exact h
    · split
      · exact h
      · have h1 : MOk l.length (mput l ws s) := mput_ok h (by omega) (by have := (gok_sums hg hws).1; omega)
        have hmem : ∀ k ∈ List.range' fr (l.length - fr), fr ≤ k ∧ k < l.length := fun k hk => by rw [List.mem_range'_1] at hk; omega
        generalize mput l ws s = s1 at h1
        generalize List.range' fr (l.length - fr) = ks at hmem
        induction ks generalizing s1 with
        | nil => exact h1
        | cons k ks ihk =>
          rw [List.foldl_cons]
          refine ihk _ ?_ (fun x hx => hmem x (List.mem_cons_of_mem _ hx))
          have hk := hmem k (by simp)
          unfold mkid
          split
          · refine ih _ _ _ ?_ (by simp; omega) (by omega) h1
            intro x hx
            rw [List.mem_append] at hx
            rcases hx with hx | hx
            · exact hws x hx
            · simp at hx; omega
          · exact h1
theorem mfold_succ (f : MS → Nat → MS) (fr j : Nat) (s : MS) : (List.range' fr (j + 1)).foldl f s = f ((List.range' fr j).foldl f s) (fr + j) := by
  rw [List.range'_1_concat, List.foldl_append]; rfl
theorem mrange_from (f : MS → Nat → MS) (s : MS) (fr k n : Nat) (hk : k ≤ n) (h : ∀ ks : List Nat, ks.foldl f ((List.range' fr k).foldl f s) = (List.range' fr k).foldl f s) : (List.range' fr n).foldl f s = (List.range' fr k).foldl f s := by
  obtain ⟨d, rfl⟩ : ∃ d, n = k + d := ⟨n - k, by omega⟩
  rw [← List.range'_append_1, List.foldl_append]; exact h _
def rMostPeople (l : List GroupR) (r : RoomR) (budget : Int) : List Int × Int × Int :=
  if groupBAll l && roomB r.People r.Bikes r.Kilos then (if inB budget 1 20000 then
    (if (ms l r (l.length + 1) [] 0 ⟨budget.toNat, false, [], 0⟩).spent then ([], 0, 5) else (ciN (ms l r (l.length + 1) [] 0 ⟨budget.toNat, false, [], 0⟩).best, (ms l r (l.length + 1) [] 0 ⟨budget.toNat, false, [], 0⟩).most, 0)) else ([], 0, 2)) else ([], 0, 1)
end Go.Proofs.Ytmnpehajojdhcaa
