/- Inspections: DoCheck: contracts of both sides. -/
import Derived.Test.YtickepianllblaaGreatDoorCh
namespace Go.Proofs.YtickepianllblaaGreatDoor
open Go.RowKit
set_option maxRecDepth 100000
set_option linter.unusedVariables false
set_option linter.unusedSimpArgs false

theorem info_Check : (Tryz.prog.info? 39).map (fun i => (i.zero, i.size, i.bytes)) = some (some (.agg #[.string ByteArray.empty, .int .i64 0, .int .i64 0, .int .i64 0, .int .i64 0]), 5, 48) := by kernel_rfl
/-! ### plain: names differ -/
theorem bytesLess_irrefl : ∀ x : List UInt8, Op.bytesLess x x = false := by
  intro x
  induction x with
  | nil => rfl
  | cons a x ih => simp [Op.bytesLess, ih]
theorem bytesLess_trans : ∀ x y z : List UInt8, Op.bytesLess x y = true → Op.bytesLess y z = true → Op.bytesLess x z = true := by
  intro x
  induction x with
  | nil =>
    intro y z h1 h2
    cases z with
    | nil => cases y <;> simp [Op.bytesLess] at h2
    | cons c z => rfl
  | cons a x ih =>
    intro y z h1 h2
    cases y with
    | nil => simp [Op.bytesLess] at h1
    | cons b y =>
      cases z with
      | nil => simp [Op.bytesLess] at h2
      | cons c z =>
        simp only [Op.bytesLess, Bool.or_eq_true, Bool.and_eq_true, decide_eq_true_eq, beq_iff_eq] at h1 h2 ⊢
        rcases h1 with h1 | ⟨h1, h1'⟩
        · rcases h2 with h2 | ⟨h2, h2'⟩
          · left
            rw [UInt8.lt_iff_toNat_lt] at h1 h2 ⊢
            omega
          · subst h2; exact .inl h1
        · subst h1
          rcases h2 with h2 | ⟨h2, h2'⟩
          · exact .inl h2
          · exact .inr ⟨h2, ih y z h1' h2'⟩
theorem checks_lt {l : List CheckR} (h : checkBAll l = true) : ∀ d i, i + d + 1 < l.length → sLt (CheckR.at_ l i).Id (CheckR.at_ l (i + d + 1)).Id = true := by
  have hs : ∀ i, i + 1 < l.length → sLt (CheckR.at_ l i).Id (CheckR.at_ l (i + 1)).Id = true := by
    intro i hi
    simp only [checkBAll, Bool.and_eq_true] at h
    have := allTo_true.1 h.1 (i + 1) hi
    simp only [checkBAt, Bool.and_eq_true, Bool.or_eq_true, decide_eq_true_eq, Nat.add_sub_cancel] at this
    rcases this.2 with h0 | h0
    · omega
    · exact h0
  intro d
  induction d with
  | zero => exact hs
  | succ d ih =>
    intro i hi
    have h1 := ih i (by omega)
    have h2 := hs (i + d + 1) (by omega)
    exact bytesLess_trans _ _ _ h1 h2
def eqP (l : List CheckR) (id : ByteArray) (k : Nat) : Bool := (CheckR.at_ l k).Id.toList == id.toList
theorem one_only {l : List CheckR} {id : ByteArray} (h : checkBAll l = true) {i j : Nat} (hij : i < j) (hj : j < l.length) (hi : eqP l id i = true) : eqP l id j = false := by
  cases hp : eqP l id j with
  | false => rfl
  | true =>
    have h1 := checks_lt h (j - i - 1) i (by omega)
    rw [show i + (j - i - 1) + 1 = j by omega] at h1
    unfold eqP at hi hp
    rw [beq_iff_eq] at hi hp
    unfold sLt at h1
    rw [hi, hp, bytesLess_irrefl] at h1
    cases h1
def doneC (x : CheckR) (d r : Int) : CheckR := ⟨x.Id, x.EveryDays, x.EveryRides, d, r⟩
/-- The first k noted, where the name is that. -/
def doTo (l : List CheckR) (id : ByteArray) (d r : Int) : Nat → List CheckR
  | 0 => l
  | k + 1 => if eqP l id k then (doTo l id d r k).set k (doneC (CheckR.at_ l k) d r) else doTo l id d r k
theorem doTo_succ (l : List CheckR) (id : ByteArray) (d r : Int) (k : Nat) : doTo l id d r (k + 1) = if eqP l id k then (doTo l id d r k).set k (doneC (CheckR.at_ l k) d r) else doTo l id d r k := rfl
theorem doTo_len (l : List CheckR) (id : ByteArray) (d r : Int) : ∀ k, (doTo l id d r k).length = l.length := by
  intro k
  induction k with
  | zero => rfl
  | succ k ih => rw [doTo_succ]; split <;> simp [ih]
theorem doTo_get (l : List CheckR) (id : ByteArray) (d r : Int) : ∀ k j, k ≤ j → (doTo l id d r k)[j]? = l[j]? := by
  intro k
  induction k with
  | zero => intro j _; rfl
  | succ k ih =>
    intro j hj
    rw [doTo_succ]
    split
    · rw [List.getElem?_set_ne (by omega)]; exact ih j (by omega)
    · exact ih j (by omega)
theorem doTo_at (l : List CheckR) (id : ByteArray) (d r : Int) (k : Nat) : CheckR.at_ (doTo l id d r k) k = CheckR.at_ l k := by
  show (doTo l id d r k).getD k _ = l.getD k _
  rw [List.getD, List.getD, doTo_get l id d r k k (Nat.le_refl _)]
theorem doTo_none {l : List CheckR} {id : ByteArray} {d r : Int} : ∀ k, (∀ j, j < k → eqP l id j = false) → doTo l id d r k = l := by
  intro k
  induction k with
  | zero => intro _; rfl
  | succ k ih =>
    intro h
    rw [doTo_succ, h k (by omega), ih (fun j hj => h j (by omega))]; rfl
theorem doTo_one {l : List CheckR} {id : ByteArray} {d r : Int} {k : Nat} (h : checkBAll l = true) (hk : k < l.length) (h1 : eqP l id k = true) (h0 : ∀ j, j < k → eqP l id j = false) : ∀ m, k + 1 + m ≤ l.length → doTo l id d r (k + 1 + m) = l.set k (doneC (CheckR.at_ l k) d r) := by
  intro m
  induction m with
  | zero => intro _; rw [Nat.add_zero, doTo_succ, h1, doTo_none k h0]; rfl
  | succ m ih =>
    intro hm
    rw [show k + 1 + (m + 1) = (k + 1 + m) + 1 by omega, doTo_succ, one_only h (show k < k + 1 + m by omega) (by omega) h1, ih (by omega)]; rfl
def rDoCheck (l : List CheckR) (id : ByteArray) (d r : Int) : List CheckR × Int :=
  if askI l d r 0 = 0 then (if allTo (fun j => !eqP l id j) l.length then ([], 3) else (doTo l id d r l.length, 0)) else ([], askI l d r 0)

theorem clone_Check_any {A : Option Addr} {n c B : Nat} {l : List CheckR} {w : World} (h : Reads w B 5 A n (l.flatMap CheckR.cells)) (hB : B ≤ w.heap.size) (hn : n ≤ 1048576) (h0 : 0 < n) :
    Calls Tryz.prog 34 #[.slice A n c] w fun e w' => ∃ A' c', e = .returned (.slice A' n c') ∧ Own w' w.heap.size 39 5 A' n c' (l.flatMap CheckR.cells) ∧ Below w.heap.size w w' := by
  obtain ⟨i1, hi', hz0', hz1', hz2'⟩ := info_parts info_Check
  obtain ⟨ad, rfl, _, _⟩ := h.2 h0
  have qT : ∀ w, (binOp .eql 24 (.slice (some ad) n c) (.slice none 0 0)).run Tryz.prog w = .ok (.bool false) w := fun w => Lib.run_eql_slice_nil w _ _ (some ad) n c 0 0 Tryz.underlying24
  go_enter Tryz.func34, Tryz.ntmps34
  go_wp2_with (at_builtin; refine wpList_appS rfl (.tmp 5) (.tmp 6) 24 rfl 39 i1 _ 5 48 Tryz.underlying24 hi' hz0' hz1' hz2' rfl (by omega) (by omega) w.heap.size _ _ _ _ rfl (Own.empty _ _ _ _ (Nat.le_refl _)) B (some ad) n c _ rfl (Reads.alloc h hB _) (checks_one _) (by omega) (by simp) ?_)
  intro A2 c2 w2 ho hg hb hat
  go_wp2_with fail
  go_ret
  exact ⟨A2, c2, rfl, by simpa using ho, ((Below.refl _ _).alloc (Nat.le_refl _) _).trans hb⟩
theorem doCheck1_any {x : CheckR} {id : ByteArray} {bp : Nat} {w : World} (hp : w.cell? ⟨bp, 0, none⟩ = some (.string id)) :
    Calls Tryz.prog 33 #[.agg #[.string x.Id, .int .i64 x.EveryDays, .int .i64 x.EveryRides, .int .i64 x.LastDay, .int .i64 x.LastRide], .pointer (some ⟨bp, 0, none⟩)] w fun e w' => e = .returned (.bool (x.Id.toList == id.toList)) ∧ Below w.heap.size w w' := by
  have l1 := World.block_lt_of_cell? w _ hp
  simp only at l1
  go_enter Tryz.func33, Tryz.ntmps33
  go_wp2_with fail
  go_ret
  exact ⟨rfl, (Below.refl _ _).alloc (Nat.le_refl _) _⟩

set_option maxHeartbeats 1000000 in
theorem implDoCheck_any {A : Option Addr} {n c B : Nat} {l : List CheckR} {id : ByteArray} {day rides : Int} {w : World} (h : Reads w B 5 A n (l.flatMap CheckR.cells)) (hB : B ≤ w.heap.size) (hc : n ≤ c) (hn : n ≤ 1048576) (hF : ∀ x ∈ l, x.Id.size ≤ 1048576) (hs : id.size ≤ 1048576) :
    Calls Tryz.prog 18 #[.slice A n c, .string id, .int .i64 day, .int .i64 rides] w fun e w' => ∃ A2 n2 c2, e = .returned (.tuple #[.slice A2 n2 c2, .int .i64 (rDoCheck l id day rides).2]) ∧ n2 ≤ 1048576 ∧
      Own w' w.heap.size 39 5 A2 n2 c2 ((rDoCheck l id day rides).1.flatMap CheckR.cells) ∧ Below w.heap.size w w' := by
  have HL := Lib.hid (CheckR.count h)
  have hK := Tryz.call33
  have pre : Below w.heap.size w (w.alloc (.cells #[.string id] 9)) := (Below.refl _ _).alloc (Nat.le_refl _) _
  have hsz : w.heap.size < (w.alloc (.cells #[.string id] 9)).heap.size := by simp
  have hp : (w.alloc (.cells #[.string id] 9)).cell? ⟨w.heap.size, 0, none⟩ = some (.string id) := by simp
  have h1 := Reads.below h pre hB
  have Ha0 : Hid (askI l day rides 0 = askI l day rides 0) := Lib.hid rfl
  go_enter Tryz.func18, Tryz.ntmps18
  go_wp2_with fail
  generalize w.alloc (.cells #[.string id] 9) = W1 at *
  refine (inspected_any h1 (by omega) hn hF).mono ?_
  rintro e w1 ⟨rfl, b⟩
  have hp1 := (b.cell (p := ⟨w.heap.size, 0, none⟩) hsz).trans hp
  have b1 := pre.trans (b.mono pre.size)
  have hs1 := b1.size
  have hsz1 : w.heap.size < w1.heap.size := Nat.lt_of_lt_of_le hsz b.size
  have h2 := Reads.below h1 b (by omega)
  clear pre hp h1 b hsz
  by_cases ha : askI l day rides 0 = 0
  · have hck := (askI_zero ha).1
    have Hck := Lib.hid hck
    have Hr : Hid (rDoCheck l id day rides = if allTo (fun j => !eqP l id j) n then ([], 3) else (doTo l id day rides n, 0)) := Lib.hid (by rw [rDoCheck, if_pos ha, HL.out])
    rw [ha]
    clear ha hck
    have Hcl : Hid (∀ w', Below w1.heap.size w1 w' → ∀ x : CheckR, Calls Tryz.prog 33 #[.agg #[.string x.Id, .int .i64 x.EveryDays, .int .i64 x.EveryRides, .int .i64 x.LastDay, .int .i64 x.LastRide], .pointer (some ⟨w.heap.size, 0, none⟩)] w' fun e w'' => e = .returned (.bool (x.Id.toList == id.toList)) ∧ Below w'.heap.size w' w'') :=
      Lib.hid (fun w' hw x => doCheck1_any ((hw.cell (p := ⟨w.heap.size, 0, none⟩) hsz1).trans hp1))
    go_wp2_with fail
    refine (indexC1_any _ hK (fun x => x.Id.toList == id.toList) _ _ Hcl A n c B l h2 (by omega) (by omega)).mono ?_
    rintro e w2 ⟨rfl, b⟩
    have b2 := b1.trans (b.mono hs1)
    have hs2 := b2.size
    have h3 := Reads.below h2 b (by omega)
    clear Hcl hp1 h2 b b1
    rcases firstTo_cases (fun k => (CheckR.at_ l k).Id.toList == id.toList) l.length with ⟨e1, hno⟩ | ⟨k, hk, e1, hyes, hbef⟩
    · rw [e1]
      have Hal : Hid (allTo (fun j => !eqP l id j) n = true) := Lib.hid (allTo_true.2 (fun j hj => by have := hno j (by rw [HL.out]; exact hj); show (!eqP l id j) = true; rw [eqP, this]; rfl))
      clear e1 hno
      go_wp2_with fail
      go_ret2
      exact ⟨none, 0, 0, by rw [Hr.out, Hal.out]; rfl, by omega, by rw [Hr.out, Hal.out]; exact Own.nil _ _ _ _, b2⟩
    · rw [e1]
      rw [HL.out] at hk
      have Hal : Hid (allTo (fun j => !eqP l id j) n = false) := Lib.hid (allTo_false hk (by show (!eqP l id k) = false; rw [eqP, hyes]; rfl))
      have Hdo : Hid (doTo l id day rides n = l.set k ⟨(CheckR.at_ l k).Id, (CheckR.at_ l k).EveryDays, (CheckR.at_ l k).EveryRides, day, rides⟩) := Lib.hid (by
        have := doTo_one (id := id) (d := day) (r := rides) Hck.out (by rw [HL.out]; exact hk) hyes hbef (n - (k + 1)) (by rw [HL.out]; omega)
        rw [show k + 1 + (n - (k + 1)) = n by omega] at this
        exact this)
      have hk0 : (0 : Int) ≤ (k : Int) := by omega
      have hk0' : ¬ (k : Int) < 0 := by omega
      have hk1 : (k : Int) < (n : Int) := by omega
      clear e1 hyes hbef
      go_wp2_with fail
      refine (clone_Check_any h3 (by omega) hn (by omega)).mono ?_
      rintro e w3 ⟨A1, c1, rfl, hoN, b3⟩
      have b4 := b2.trans (b3.mono hs2)
      obtain ⟨g1, rfl, hg1, hg2⟩ := own_some hoN (by omega)
      have hg3 : w.heap.size ≤ g1 := by omega
      have d3 : w3.cell? ⟨g1, k * 5 + 3, none⟩ = some (.int .i64 (CheckR.at_ l k).LastDay) := CheckR.own_get (k := k) (j := 3) hoN hk (by omega)
      have d4 : w3.cell? ⟨g1, k * 5 + 4, none⟩ = some (.int .i64 (CheckR.at_ l k).LastRide) := CheckR.own_get (k := k) (j := 4) hoN hk (by omega)
      have f3 := hoN.frozenAt (j := k * 5 + 3)
      have f4 := hoN.frozenAt (j := k * 5 + 4)
      have s3 := hoN.stored (j := k * 5 + 3) (.int .i64 day)
      have s4 := s3.1.stored (j := k * 5 + 4) (.int .i64 rides)
      have hoN3 := s4.1
      rw [two_set l k day rides (by rw [HL.out]; exact hk), ← Hdo.out] at hoN3
      have hb5 := (b4.setCell (p := ⟨g1, k * 5 + 3, none⟩) hg3 (.int .i64 day)).setCell (p := ⟨g1, k * 5 + 4, none⟩) hg3 (.int .i64 rides)
      have HB := Lib.hid (hoN3.mono hs2)
      have HW := Lib.hid hb5
      clear s3 s4 hoN3 hb5 hoN b4 b3 b2 h3
      go_wp2_with fail
      go_ret2
      exact ⟨_, n, c1, by rw [Hr.out, Hal.out]; rfl, by omega, by rw [Hr.out, Hal.out]; exact HB.out, HW.out⟩
  · have Hr : Hid (rDoCheck l id day rides = ([], askI l day rides 0)) := Lib.hid (by rw [rDoCheck, if_neg ha])
    generalize askI l day rides 0 = cd at *
    go_wp2_with fail
    go_ret2
    exact ⟨none, 0, 0, by rw [Hr.out]; rfl, by omega, by rw [Hr.out]; exact Own.nil _ _ _ _, b1⟩
end Go.Proofs.YtickepianllblaaGreatDoor
