/- Inspections: DoCheck: contracts of both sides. -/
import Derived.Test.YtkehbolnfommbaaCh
namespace Go.Proofs.Ytkehbolnfommbaa
open Go.RowKit
set_option maxRecDepth 100000
set_option linter.unusedVariables false
set_option linter.unusedSimpArgs false

/-! ### plain: names differ -/
theorem bytesLess_irrefl : ∀ x : List UInt8, Op.bytesLess x x = false := by
  intro x
  induction x with
  | nil => rfl
  | cons a x ih => simp [Op.bytesLess, ih]
theorem bytesLess_trans : ∀ x y z : List UInt8, Op.bytesLess x y = true → Op.bytesLess y z = true → Op.bytesLess x z = true := by
  intro x
  induction x with
  | nil =>
    intro y z h1 h2
    cases z with
    | nil => cases y <;> simp [Op.bytesLess] at h2
    | cons c z => rfl
  | cons a x ih =>
    intro y z h1 h2
    cases y with
    | nil => simp [Op.bytesLess] at h1
    | cons b y =>
      cases z with
      | nil => simp [Op.bytesLess] at h2
      | cons c z =>
        simp only [Op.bytesLess, Bool.or_eq_true, Bool.and_eq_true, decide_eq_true_eq, beq_iff_eq] at h1 h2 ⊢
        rcases h1 with h1 | ⟨h1, h1'⟩
        · rcases h2 with h2 | ⟨h2, h2'⟩
          · left
            rw [UInt8.lt_iff_toNat_lt] at h1 h2 ⊢
            omega
          · subst h2; exact .inl h1
        · subst h1
          rcases h2 with h2 | ⟨h2, h2'⟩
          · exact .inl h2
          · exact .inr ⟨h2, ih y z h1' h2'⟩
theorem checks_lt {l : List CheckR} (h : checkBAll l = true) : ∀ d i, i + d + 1 < l.length → sLt (CheckR.at_ l i).Id (CheckR.at_ l (i + d + 1)).Id = true := by
  have hs : ∀ i, i + 1 < l.length → sLt (CheckR.at_ l i).Id (CheckR.at_ l (i + 1)).Id = true := by
    intro i hi
    simp only [checkBAll, Bool.and_eq_true] at h
    have := allTo_true.1 h.1 (i + 1) hi
    simp only [checkBAt, Bool.and_eq_true, Bool.or_eq_true, decide_eq_true_eq, Nat.add_sub_cancel] at this
    rcases this.2 with h0 | h0
    · omega
    · exact h0
  intro d
  induction d with
  | zero => exact hs
  | succ d ih =>
    intro i hi
    have h1 := ih i (by omega)
    have h2 := hs (i + d + 1) (by omega)
    exact bytesLess_trans _ _ _ h1 h2
def eqP (l : List CheckR) (id : ByteArray) (k : Nat) : Bool := (CheckR.at_ l k).Id.toList == id.toList
theorem one_only {l : List CheckR} {id : ByteArray} (h : checkBAll l = true) {i j : Nat} (hij : i < j) (hj : j < l.length) (hi : eqP l id i = true) : eqP l id j = false := by
  cases hp : eqP l id j with
  | false => rfl
  | true =>
    have h1 := checks_lt h (j - i - 1) i (by omega)
    rw [show i + (j - i - 1) + 1 = j by omega] at h1
    unfold eqP at hi hp
    rw [beq_iff_eq] at hi hp
    unfold sLt at h1
    rw [hi, hp, bytesLess_irrefl] at h1
    cases h1
def doneC (x : CheckR) (d r : Int) : CheckR := ⟨x.Id, x.EveryDays, x.EveryRides, d, r⟩
/-- The first k noted, where the name is that. -/
def doTo (l : List CheckR) (id : ByteArray) (d r : Int) : Nat → List CheckR
  | 0 => l
  | k + 1 => if eqP l id k then (doTo l id d r k).set k (doneC (CheckR.at_ l k) d r) else doTo l id d r k
theorem doTo_succ (l : List CheckR) (id : ByteArray) (d r : Int) (k : Nat) : doTo l id d r (k + 1) = if eqP l id k then (doTo l id d r k).set k (doneC (CheckR.at_ l k) d r) else doTo l id d r k := rfl
theorem doTo_len (l : List CheckR) (id : ByteArray) (d r : Int) : ∀ k, (doTo l id d r k).length = l.length := by
  intro k
  induction k with
  | zero => rfl
  | succ k ih => rw [doTo_succ]; split <;> simp [ih]
theorem doTo_get (l : List CheckR) (id : ByteArray) (d r : Int) : ∀ k j, k ≤ j → (doTo l id d r k)[j]? = l[j]? := by
  intro k
  induction k with
  | zero => intro j _; rfl
  | succ k ih =>
    intro j hj
    rw [doTo_succ]
    split
    · rw [List.getElem?_set_ne (by omega)]; exact ih j (by omega)
    · exact ih j (by omega)
theorem doTo_at (l : List CheckR) (id : ByteArray) (d r : Int) (k : Nat) : CheckR.at_ (doTo l id d r k) k = CheckR.at_ l k := by
  show (doTo l id d r k).getD k _ = l.getD k _
  rw [List.getD, List.getD, doTo_get l id d r k k (Nat.le_refl _)]
theorem doTo_none {l : List CheckR} {id : ByteArray} {d r : Int} : ∀ k, (∀ j, j < k → eqP l id j = false) → doTo l id d r k = l := by
  intro k
  induction k with
  | zero => intro _; rfl
  | succ k ih =>
    intro h
    rw [doTo_succ, h k (by omega), ih (fun j hj => h j (by omega))]; rfl
theorem doTo_one {l : List CheckR} {id : ByteArray} {d r : Int} {k : Nat} (h : checkBAll l = true) (hk : k < l.length) (h1 : eqP l id k = true) (h0 : ∀ j, j < k → eqP l id j = false) : ∀ m, k + 1 + m ≤ l.length → doTo l id d r (k + 1 + m) = l.set k (doneC (CheckR.at_ l k) d r) := by
  intro m
  induction m with
  | zero => intro _; rw [Nat.add_zero, doTo_succ, h1, doTo_none k h0]; rfl
  | succ m ih =>
    intro hm
    rw [show k + 1 + (m + 1) = (k + 1 + m) + 1 by omega, doTo_succ, one_only h (show k < k + 1 + m by omega) (by omega) h1, ih (by omega)]; rfl
def rDoCheck (l : List CheckR) (id : ByteArray) (d r : Int) : List CheckR × Int :=
  if askI l d r 0 = 0 then (if allTo (fun j => !eqP l id j) l.length then ([], 3) else (doTo l id d r l.length, 0)) else ([], askI l d r 0)

set_option maxHeartbeats 1000000 in
theorem specDoCheck_any {A : Option Addr} {n c B : Nat} {l : List CheckR} {id : ByteArray} {day rides : Int} {w : World} (h : Reads w B 5 A n (l.flatMap CheckR.cells)) (hB : B ≤ w.heap.size) (hc : n ≤ c) (hn : n ≤ 1048576) (hF : ∀ x ∈ l, x.Id.size ≤ 1048576) (hs : id.size ≤ 1048576) :
    Calls Try.prog 29 #[.slice A n c, .string id, .int .i64 day, .int .i64 rides] w fun e w' => ∃ A2 n2 c2, e = .returned (.tuple #[.slice A2 n2 c2, .int .i64 (rDoCheck l id day rides).2]) ∧ n2 ≤ 1048576 ∧
      Own w' w.heap.size 34 5 A2 n2 c2 ((rDoCheck l id day rides).1.flatMap CheckR.cells) ∧ Below w.heap.size w w' := by
  have HL := Lib.hid (CheckR.count h)
  obtain ⟨i1, hi', hz0', hz1', hz2'⟩ := info_parts info_Check
  by_cases ha : askI l day rides 0 = 0
  · have Ha := Lib.hid ha
    have Hr : Hid (rDoCheck l id day rides = if allTo (fun j => !eqP l id j) n then ([], 3) else (doTo l id day rides n, 0)) := Lib.hid (by rw [rDoCheck, if_pos ha, HL.out])
    clear ha
    go_enter Try.func29, Try.ntmps29
    go_wp2_with fail
    refine (l21Ask_any h hB hn hF).mono ?_
    rintro e w1 ⟨rfl, b1⟩
    rw [Ha.out]
    have hs1 := b1.size
    have h1 := Reads.below h b1 hB
    go_wp2_with (at_builtin; refine wpList_appS rfl (.tmp 21) (.tmp 22) 25 rfl 34 i1 _ 5 48 Try.underlying25 hi' hz0' hz1' hz2' rfl (by omega) (by omega) w.heap.size _ _ _ _ rfl (Own.empty _ _ _ _ hs1) B A n c _ rfl (Reads.alloc h1 (by omega) _) (checks_one _) (by omega) (by simp; omega) ?_)
    intro A1 c1 w2 hoN hgN hbN hatN
    have b2 : Below w.heap.size w w2 := (b1.alloc hs1 _).trans hbN
    clear hgN hbN hatN b1 h1
    go_wp2_with fail
    go_loopg [12, 13] n (fun gk vf vi wr => ∃ i : Nat, i ≤ n ∧ gk + i = n ∧ vi = .int .i64 (i : Int) ∧ vf = .bool (!allTo (fun j => !eqP l id j) i) ∧ Own wr w.heap.size 34 5 A1 n c1 ((doTo l id day rides i).flatMap CheckR.cells) ∧ Below w.heap.size w wr)
    case atStart => exact ⟨0, by omega, by omega, rfl, rfl, by simpa [doTo] using hoN, b2⟩
    case round =>
      clear hoN b2
      obtain ⟨i, hi3, hgk, rfl, rfl, hoN, hb⟩ := hrel
      have Hgk := Lib.hid hgk
      have hbs := hb.size
      clear hgk
      have Hsu := Lib.hid (allTo_succ (fun j => !eqP l id j) i)
      have Hdo := Lib.hid (doTo_succ l id day rides i)
      by_cases hlt : i < n
      · obtain ⟨g1, rfl, hg1, hg2⟩ := own_some hoN (by omega)
        have hXe := doTo_at l id day rides i
        have Hset := Lib.hid (two_set (doTo l id day rides i) i day rides (by rw [doTo_len, HL.out]; exact hlt))
        rw [hXe] at Hset
        have Heq : Hid (eqP l id i = ((CheckR.at_ l i).Id.toList == id.toList)) := Lib.hid rfl
        have c0 : wr.cell? ⟨g1, i * 5, none⟩ = some (.string (CheckR.at_ l i).Id) := by have := CheckR.own_get (k := i) (j := 0) hoN hlt (by omega); rw [hXe] at this; exact this
        have d3 : wr.cell? ⟨g1, i * 5 + 3, none⟩ = some (.int .i64 (CheckR.at_ l i).LastDay) := by have := CheckR.own_get (k := i) (j := 3) hoN hlt (by omega); rw [hXe] at this; exact this
        have d4 : wr.cell? ⟨g1, i * 5 + 4, none⟩ = some (.int .i64 (CheckR.at_ l i).LastRide) := by have := CheckR.own_get (k := i) (j := 4) hoN hlt (by omega); rw [hXe] at this; exact this
        have hi0 : (0 : Int) ≤ (i : Int) := by omega
        have hi1 : (i : Int) < (n : Int) := by omega
        have hqi : IntKind.i64.wrap ((i : Int) + 1) = (i : Int) + 1 := IntWalk.i64_in _ (by omega)
        have Hdn : Hid (doneC (CheckR.at_ l i) day rides = ⟨(CheckR.at_ l i).Id, (CheckR.at_ l i).EveryDays, (CheckR.at_ l i).EveryRides, day, rides⟩) := Lib.hid rfl
        clear hXe
        generalize CheckR.at_ l i = X at *
        cases hv : (X.Id.toList == id.toList) with
        | false =>
          have Hp : Hid (eqP l id i = false) := Lib.hid (by rw [Heq.out, hv])
          have HA : Hid (allTo (fun j => !eqP l id j) (i + 1) = allTo (fun j => !eqP l id j) i) := Lib.hid (by rw [Hsu.out, Hp.out]; simp)
          have HD : Hid (doTo l id day rides (i + 1) = doTo l id day rides i) := Lib.hid (by rw [Hdo.out, Hp.out]; rfl)
          generalize allTo (fun j => !eqP l id j) i = F at *
          go_wp2_with fail
          have hgk := Hgk.out
          go_roundg (gk - 1)
          case rel => exact ⟨i + 1, by omega, by omega, by go_num, by rw [HA.out], by rw [HD.out]; exact hoN, hb⟩
          case measure => omega
        | true =>
          have Hp : Hid (eqP l id i = true) := Lib.hid (by rw [Heq.out, hv])
          have HA : Hid (allTo (fun j => !eqP l id j) (i + 1) = false) := Lib.hid (by rw [Hsu.out, Hp.out]; simp)
          have HD : Hid (doTo l id day rides (i + 1) = (doTo l id day rides i).set i ⟨X.Id, X.EveryDays, X.EveryRides, day, rides⟩) := Lib.hid (by rw [Hdo.out, Hp.out, if_pos rfl, Hdn.out])
          have f3 := hoN.frozenAt (j := i * 5 + 3)
          have f4 := hoN.frozenAt (j := i * 5 + 4)
          have s3 := hoN.stored (j := i * 5 + 3) (.int .i64 day)
          have s4 := s3.1.stored (j := i * 5 + 4) (.int .i64 rides)
          have hoN3 := s4.1
          rw [Hset.out, ← HD.out] at hoN3
          have hb4 := (hb.setCell (p := ⟨g1, i * 5 + 3, none⟩) hg1 (.int .i64 day)).setCell (p := ⟨g1, i * 5 + 4, none⟩) hg1 (.int .i64 rides)
          have HB := Lib.hid hoN3
          have HW := Lib.hid hb4
          clear s3 s4 hoN3 hb4 hoN hb
          generalize allTo (fun j => !eqP l id j) i = F at *
          go_wp2_with fail
          have hgk := Hgk.out
          go_roundg (gk - 1)
          case rel => exact ⟨i + 1, by omega, by omega, by go_num, by rw [HA.out]; rfl, HB.out, HW.out⟩
          case measure => omega
      · have hie : i = n := by omega
        subst hie
        have hd : ¬ (i : Int) < (i : Int) := by omega
        clear Hsu Hdo
        cases hv : allTo (fun j => !eqP l id j) i with
        | true =>
          have Hv := Lib.hid hv
          clear hv
          go_wp2_with fail
          go_ret2
          exact ⟨none, 0, 0, by rw [Hr.out, Hv.out]; rfl, by omega, by rw [Hr.out, Hv.out]; exact Own.nil _ _ _ _, hb⟩
        | false =>
          have Hv := Lib.hid hv
          clear hv
          go_wp2_with fail
          go_ret2
          exact ⟨A1, _, c1, by rw [Hr.out, Hv.out]; rfl, by omega, by rw [Hr.out, Hv.out]; exact hoN, hb⟩
  · have Hr : Hid (rDoCheck l id day rides = ([], askI l day rides 0)) := Lib.hid (by rw [rDoCheck, if_neg ha])
    go_enter Try.func29, Try.ntmps29
    go_wp2_with fail
    refine (l21Ask_any h hB hn hF).mono ?_
    rintro e w1 ⟨rfl, b1⟩
    generalize askI l day rides 0 = cd at *
    go_wp2_with fail
    go_ret2
    exact ⟨none, 0, 0, by rw [Hr.out]; rfl, by omega, by rw [Hr.out]; exact Own.nil _ _ _ _, b1⟩

theorem clone_Check_any {A : Option Addr} {n c B : Nat} {l : List CheckR} {w : World} (h : Reads w B 5 A n (l.flatMap CheckR.cells)) (hB : B ≤ w.heap.size) (hn : n ≤ 1048576) (h0 : 0 < n) :
    Calls Try.prog 63 #[.slice A n c] w fun e w' => ∃ A' c', e = .returned (.slice A' n c') ∧ Own w' w.heap.size 34 5 A' n c' (l.flatMap CheckR.cells) ∧ Below w.heap.size w w' := by
  obtain ⟨i1, hi', hz0', hz1', hz2'⟩ := info_parts info_Check
  obtain ⟨ad, rfl, _, _⟩ := h.2 h0
  have qT : ∀ w, (binOp .eql 25 (.slice (some ad) n c) (.slice none 0 0)).run Try.prog w = .ok (.bool false) w := fun w => Lib.run_eql_slice_nil w _ _ (some ad) n c 0 0 Try.underlying25
  go_enter Try.func63, Try.ntmps63
  go_wp2_with (at_builtin; refine wpList_appS rfl (.tmp 5) (.tmp 6) 25 rfl 34 i1 _ 5 48 Try.underlying25 hi' hz0' hz1' hz2' rfl (by omega) (by omega) w.heap.size _ _ _ _ rfl (Own.empty _ _ _ _ (Nat.le_refl _)) B (some ad) n c _ rfl (Reads.alloc h hB _) (checks_one _) (by omega) (by simp) ?_)
  intro A2 c2 w2 ho hg hb hat
  go_wp2_with fail
  go_ret
  exact ⟨A2, c2, rfl, by simpa using ho, ((Below.refl _ _).alloc (Nat.le_refl _) _).trans hb⟩
theorem doCheck1_any {x : CheckR} {id : ByteArray} {bp : Nat} {w : World} (hp : w.cell? ⟨bp, 0, none⟩ = some (.string id)) :
    Calls Try.prog 62 #[.agg #[.string x.Id, .int .i64 x.EveryDays, .int .i64 x.EveryRides, .int .i64 x.LastDay, .int .i64 x.LastRide], .pointer (some ⟨bp, 0, none⟩)] w fun e w' => e = .returned (.bool (x.Id.toList == id.toList)) ∧ Below w.heap.size w w' := by
  have l1 := World.block_lt_of_cell? w _ hp
  simp only at l1
  go_enter Try.func62, Try.ntmps62
  go_wp2_with fail
  go_ret
  exact ⟨rfl, (Below.refl _ _).alloc (Nat.le_refl _) _⟩

set_option maxHeartbeats 1000000 in
theorem implDoCheck_any {A : Option Addr} {n c B : Nat} {l : List CheckR} {id : ByteArray} {day rides : Int} {w : World} (h : Reads w B 5 A n (l.flatMap CheckR.cells)) (hB : B ≤ w.heap.size) (hc : n ≤ c) (hn : n ≤ 1048576) (hF : ∀ x ∈ l, x.Id.size ≤ 1048576) (hs : id.size ≤ 1048576) :
    Calls Try.prog 30 #[.slice A n c, .string id, .int .i64 day, .int .i64 rides] w fun e w' => ∃ A2 n2 c2, e = .returned (.tuple #[.slice A2 n2 c2, .int .i64 (rDoCheck l id day rides).2]) ∧ n2 ≤ 1048576 ∧
      Own w' w.heap.size 34 5 A2 n2 c2 ((rDoCheck l id day rides).1.flatMap CheckR.cells) ∧ Below w.heap.size w w' := by
  have HL := Lib.hid (CheckR.count h)
  have hK := Try.call62
  have pre : Below w.heap.size w (w.alloc (.cells #[.string id] 9)) := (Below.refl _ _).alloc (Nat.le_refl _) _
  have hsz : w.heap.size < (w.alloc (.cells #[.string id] 9)).heap.size := by simp
  have hp : (w.alloc (.cells #[.string id] 9)).cell? ⟨w.heap.size, 0, none⟩ = some (.string id) := by simp
  have h1 := Reads.below h pre hB
  have Ha0 : Hid (askI l day rides 0 = askI l day rides 0) := Lib.hid rfl
  go_enter Try.func30, Try.ntmps30
  go_wp2_with fail
  generalize w.alloc (.cells #[.string id] 9) = W1 at *
  refine (inspected_any h1 (by omega) hn hF).mono ?_
  rintro e w1 ⟨rfl, b⟩
  have hp1 := (b.cell (p := ⟨w.heap.size, 0, none⟩) hsz).trans hp
  have b1 := pre.trans (b.mono pre.size)
  have hs1 := b1.size
  have hsz1 : w.heap.size < w1.heap.size := Nat.lt_of_lt_of_le hsz b.size
  have h2 := Reads.below h1 b (by omega)
  clear pre hp h1 b hsz
  by_cases ha : askI l day rides 0 = 0
  · have hck := (askI_zero ha).1
    have Hck := Lib.hid hck
    have Hr : Hid (rDoCheck l id day rides = if allTo (fun j => !eqP l id j) n then ([], 3) else (doTo l id day rides n, 0)) := Lib.hid (by rw [rDoCheck, if_pos ha, HL.out])
    rw [ha]
    clear ha hck
    have Hcl : Hid (∀ w', Below w1.heap.size w1 w' → ∀ x : CheckR, Calls Try.prog 62 #[.agg #[.string x.Id, .int .i64 x.EveryDays, .int .i64 x.EveryRides, .int .i64 x.LastDay, .int .i64 x.LastRide], .pointer (some ⟨w.heap.size, 0, none⟩)] w' fun e w'' => e = .returned (.bool (x.Id.toList == id.toList)) ∧ Below w'.heap.size w' w'') :=
      Lib.hid (fun w' hw x => doCheck1_any ((hw.cell (p := ⟨w.heap.size, 0, none⟩) hsz1).trans hp1))
    go_wp2_with fail
    refine (indexC1_any _ hK (fun x => x.Id.toList == id.toList) _ _ Hcl A n c B l h2 (by omega) (by omega)).mono ?_
    rintro e w2 ⟨rfl, b⟩
    have b2 := b1.trans (b.mono hs1)
    have hs2 := b2.size
    have h3 := Reads.below h2 b (by omega)
    clear Hcl hp1 h2 b b1
    rcases firstTo_cases (fun k => (CheckR.at_ l k).Id.toList == id.toList) l.length with ⟨e1, hno⟩ | ⟨k, hk, e1, hyes, hbef⟩
    · rw [e1]
      have Hal : Hid (allTo (fun j => !eqP l id j) n = true) := Lib.hid (allTo_true.2 (fun j hj => by have := hno j (by rw [HL.out]; exact hj); show (!eqP l id j) = true; rw [eqP, this]; rfl))
      clear e1 hno
      go_wp2_with fail
      go_ret2
      exact ⟨none, 0, 0, by rw [Hr.out, Hal.out]; rfl, by omega, by rw [Hr.out, Hal.out]; exact Own.nil _ _ _ _, b2⟩
    · rw [e1]
      rw [HL.out] at hk
      have Hal : Hid (allTo (fun j => !eqP l id j) n = false) := Lib.hid (allTo_false hk (by show (!eqP l id k) = false; rw [eqP, hyes]; rfl))
      have Hdo : Hid (doTo l id day rides n = l.set k ⟨(CheckR.at_ l k).Id, (CheckR.at_ l k).EveryDays, (CheckR.at_ l k).EveryRides, day, rides⟩) := Lib.hid (by
        have := doTo_one (id := id) (d := day) (r := rides) Hck.out (by rw [HL.out]; exact hk) hyes hbef (n - (k + 1)) (by rw [HL.out]; omega)
        rw [show k + 1 + (n - (k + 1)) = n by omega] at this
        exact this)
      have hk0 : (0 : Int) ≤ (k : Int) := by omega
      have hk0' : ¬ (k : Int) < 0 := by omega
      have hk1 : (k : Int) < (n : Int) := by omega
      clear e1 hyes hbef
      go_wp2_with fail
      refine (clone_Check_any h3 (by omega) hn (by omega)).mono ?_
      rintro e w3 ⟨A1, c1, rfl, hoN, b3⟩
      have b4 := b2.trans (b3.mono hs2)
      obtain ⟨g1, rfl, hg1, hg2⟩ := own_some hoN (by omega)
      have hg3 : w.heap.size ≤ g1 := by omega
      have d3 : w3.cell? ⟨g1, k * 5 + 3, none⟩ = some (.int .i64 (CheckR.at_ l k).LastDay) := CheckR.own_get (k := k) (j := 3) hoN hk (by omega)
      have d4 : w3.cell? ⟨g1, k * 5 + 4, none⟩ = some (.int .i64 (CheckR.at_ l k).LastRide) := CheckR.own_get (k := k) (j := 4) hoN hk (by omega)
      have f3 := hoN.frozenAt (j := k * 5 + 3)
      have f4 := hoN.frozenAt (j := k * 5 + 4)
      have s3 := hoN.stored (j := k * 5 + 3) (.int .i64 day)
      have s4 := s3.1.stored (j := k * 5 + 4) (.int .i64 rides)
      have hoN3 := s4.1
      rw [two_set l k day rides (by rw [HL.out]; exact hk), ← Hdo.out] at hoN3
      have hb5 := (b4.setCell (p := ⟨g1, k * 5 + 3, none⟩) hg3 (.int .i64 day)).setCell (p := ⟨g1, k * 5 + 4, none⟩) hg3 (.int .i64 rides)
      have HB := Lib.hid (hoN3.mono hs2)
      have HW := Lib.hid hb5
      clear s3 s4 hoN3 hb5 hoN b4 b3 b2 h3
      go_wp2_with fail
      go_ret2
      exact ⟨_, n, c1, by rw [Hr.out, Hal.out]; rfl, by omega, by rw [Hr.out, Hal.out]; exact HB.out, HW.out⟩
  · have Hr : Hid (rDoCheck l id day rides = ([], askI l day rides 0)) := Lib.hid (by rw [rDoCheck, if_neg ha])
    generalize askI l day rides 0 = cd at *
    go_wp2_with fail
    go_ret2
    exact ⟨none, 0, 0, by rw [Hr.out]; rfl, by omega, by rw [Hr.out]; exact Own.nil _ _ _ _, b1⟩
end Go.Proofs.Ytkehbolnfommbaa
