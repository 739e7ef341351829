/- Loads: contracts of what reckons with groups and rooms. -/
import Derived.Test.YtmnpehajojdhcaaHaGroup
import Derived.Test.YtmnpehajojdhcaaGRoom
import Derived.Test.YtmnpehajojdhcaaY
import Derived.Test.YtmnpehajojdhcaaZ
namespace Go.Proofs.Ytmnpehajojdhcaa
open Go.RowKit
set_option maxRecDepth 100000
set_option linter.unusedVariables false
set_option linter.unusedSimpArgs false

def roomB (a b c : Int) : Bool := inB a 0 200 && (inB b 0 40 && inB c 0 100000)
def kiloG (x : GroupR) : Int := 75 * x.People + 15 * x.Bikes + x.Kilos
/-- The sum of a number over some of the groups. -/
def sumG (f : GroupR → Int) (l : List GroupR) (ws : List Nat) : Int := (ws.map (fun k => f (GroupR.at_ l k))).sum
theorem sumG_nil (f : GroupR → Int) (l : List GroupR) : sumG f l [] = 0 := rfl
theorem sumG_snoc (f : GroupR → Int) (l : List GroupR) (ws : List Nat) (k : Nat) : sumG f l (ws ++ [k]) = sumG f l ws + f (GroupR.at_ l k) := by unfold sumG; simp
theorem sumG_bd {f : GroupR → Int} {l : List GroupR} {M : Int} (hM : 0 ≤ M) (h : ∀ k, k < l.length → 0 ≤ f (GroupR.at_ l k) ∧ f (GroupR.at_ l k) ≤ M) : ∀ (ws : List Nat), (∀ k ∈ ws, k < l.length) → 0 ≤ sumG f l ws ∧ sumG f l ws ≤ M * ws.length := by
  intro ws
  induction ws with
  | nil => intro _; simp [sumG]
  | cons x xs ih =>
    intro hx
    have h1 := ih (fun k hk => hx k (List.mem_cons_of_mem _ hk))
    have h2 := h x (hx x (by simp))
    have e : sumG f l (x :: xs) = f (GroupR.at_ l x) + sumG f l xs := by unfold sumG; simp
    rw [e, List.length_cons, Int.natCast_succ, Int.mul_add]
    omega
def fitsW (l : List GroupR) (r : RoomR) (ws : List Nat) : Bool := decide (sumG GroupR.People l ws ≤ r.People) && (decide (sumG GroupR.Bikes l ws ≤ r.Bikes) && decide (sumG kiloG l ws ≤ r.Kilos))
/-- Groups in bounds. -/
def GOk (l : List GroupR) : Prop := ∀ k, k < l.length → (0 ≤ (GroupR.at_ l k).People ∧ (GroupR.at_ l k).People ≤ 200) ∧ (0 ≤ (GroupR.at_ l k).Bikes ∧ (GroupR.at_ l k).Bikes ≤ 40) ∧ 0 ≤ (GroupR.at_ l k).Kilos ∧ (GroupR.at_ l k).Kilos ≤ 100000
theorem gok_of {l : List GroupR} (h : groupBAll l = true) : GOk l := by
  simp only [groupBAll, Bool.and_eq_true, decide_eq_true_eq] at h
  intro k hk
  have := allTo_true.1 h.1 k hk
  simp only [groupBAt, groupB, Bool.and_eq_true, inB_true] at this
  omega
theorem gok_len {l : List GroupR} (h : groupBAll l = true) : l.length ≤ 12 := by simp only [groupBAll, Bool.and_eq_true, decide_eq_true_eq] at h; exact h.2
theorem gok_kilo {l : List GroupR} (h : GOk l) : ∀ k, k < l.length → 0 ≤ kiloG (GroupR.at_ l k) ∧ kiloG (GroupR.at_ l k) ≤ 115600 := fun k hk => by
  have := h k hk
  unfold kiloG
  omega
theorem gok_sums {l : List GroupR} (h : GOk l) {ws : List Nat} (hw : ∀ k ∈ ws, k < l.length) : (0 ≤ sumG GroupR.People l ws ∧ sumG GroupR.People l ws ≤ 200 * ws.length) ∧ (0 ≤ sumG GroupR.Bikes l ws ∧ sumG GroupR.Bikes l ws ≤ 40 * ws.length) ∧ (0 ≤ sumG kiloG l ws ∧ sumG kiloG l ws ≤ 115600 * ws.length) :=
  ⟨sumG_bd (by omega) (fun k hk => (h k hk).1) ws hw, sumG_bd (by omega) (fun k hk => (h k hk).2.1) ws hw, sumG_bd (by omega) (gok_kilo h) ws hw⟩

theorem validRoom_any {a b c : Int} {w : World} : Calls Try.prog 83 #[.agg #[.int .i64 a, .int .i64 b, .int .i64 c]] w fun e w' => e = .returned (.bool (roomB a b c)) ∧ Below w.heap.size w w' := by
  have Hc : Hid (roomB a b c = (inB a 0 200 && (inB b 0 40 && inB c 0 100000))) := Lib.hid rfl
  have hb : Below w.heap.size w (w.alloc (.cells #[.int .i64 a, .int .i64 b, .int .i64 c] 36)) := (Below.refl _ _).alloc (Nat.le_refl _) _
  cases v0 : inB a 0 200 <;> cases v1 : inB b 0 40 <;> cases v2 : inB c 0 100000 <;>
    (go_enter Try.func83, Try.ntmps83
     go_wp2_with (first | (go_at_call 40; refine (within_any _ _ _ _).mono ?_; rintro e w' ⟨rfl, rfl⟩) | (go_at_call 98; refine (isKilos_any _ _).mono ?_; rintro e w' ⟨rfl, rfl⟩))
     go_ret
     exact ⟨ret_bool (by rw [Hc.out, v0, v1, v2]; rfl), hb⟩)
theorem l17Room_any {p : Addr} {a b c : Int} {w : World} (h0 : w.cell? p = some (.int .i64 a)) (h1 : w.cell? ⟨p.block, p.off + 1, none⟩ = some (.int .i64 b)) (h2 : w.cell? ⟨p.block, p.off + 2, none⟩ = some (.int .i64 c)) :
    Calls Try.prog 95 #[.pointer (some p)] w fun e w' => e = .returned (.bool (roomB a b c)) ∧ w = w' := by
  have Hc : Hid (roomB a b c = (inB a 0 200 && (inB b 0 40 && inB c 0 100000))) := Lib.hid rfl
  cases v0 : inB a 0 200 <;> cases v1 : inB b 0 40 <;> cases v2 : inB c 0 100000 <;>
    (go_enter Try.func95, Try.ntmps95
     go_wp2_with (go_at_call 36; refine (in_any _ _ _ _).mono ?_; rintro e w' ⟨rfl, rfl⟩)
     go_ret
     exact ⟨ret_bool (by rw [Hc.out, v0, v1, v2]; rfl), rfl⟩)
theorem need_any {a0 : ByteArray} {a1 a2 a3 : Int} {w : World} (h1 : 0 ≤ a1 ∧ a1 ≤ 200) (h2 : 0 ≤ a2 ∧ a2 ≤ 40) (h3 : 0 ≤ a3 ∧ a3 ≤ 100000) :
    Calls Try.prog 86 #[.agg #[.string a0, .int .i64 a1, .int .i64 a2, .int .i64 a3]] w fun e w' => e = .returned (.agg #[.int .i64 a1, .int .i64 a2, .int .i64 (75 * a1 + 15 * a2 + a3)]) ∧ Below w.heap.size w w' := by
  have q1 : IntKind.i64.wrap (75 * a1) = 75 * a1 := IntWalk.i64_in _ (by omega)
  have q2 : IntKind.i64.wrap (15 * a2) = 15 * a2 := IntWalk.i64_in _ (by omega)
  have q3 : IntKind.i64.wrap (75 * a1 + 15 * a2) = 75 * a1 + 15 * a2 := IntWalk.i64_in _ (by omega)
  have q4 : IntKind.i64.wrap (75 * a1 + 15 * a2 + a3) = 75 * a1 + 15 * a2 + a3 := IntWalk.i64_in _ (by omega)
  go_enter Try.func86, Try.ntmps86
  go_wp2
  refine bodyPost_ret (v := .agg #[.int .i64 a1, .int .i64 a2, .int .i64 (75 * a1 + 15 * a2 + a3)]) (by simp [results, Try.results86, go_sem]) rfl ⟨rfl, ?_⟩
  go_grown
theorem plus_any {a1 a2 a3 b1 b2 b3 : Int} {w : World} (h1 : -1000000000 ≤ a1 ∧ a1 ≤ 1000000000) (h2 : -1000000000 ≤ a2 ∧ a2 ≤ 1000000000) (h3 : -1000000000 ≤ a3 ∧ a3 ≤ 1000000000) (k1 : -1000000000 ≤ b1 ∧ b1 ≤ 1000000000) (k2 : -1000000000 ≤ b2 ∧ b2 ≤ 1000000000) (k3 : -1000000000 ≤ b3 ∧ b3 ≤ 1000000000) :
    Calls Try.prog 85 #[.agg #[.int .i64 a1, .int .i64 a2, .int .i64 a3], .agg #[.int .i64 b1, .int .i64 b2, .int .i64 b3]] w fun e w' => e = .returned (.agg #[.int .i64 (a1 + b1), .int .i64 (a2 + b2), .int .i64 (a3 + b3)]) ∧ Below w.heap.size w w' := by
  have q1 : IntKind.i64.wrap (a1 + b1) = a1 + b1 := IntWalk.i64_in _ (by omega)
  have q2 : IntKind.i64.wrap (a2 + b2) = a2 + b2 := IntWalk.i64_in _ (by omega)
  have q3 : IntKind.i64.wrap (a3 + b3) = a3 + b3 := IntWalk.i64_in _ (by omega)
  go_enter Try.func85, Try.ntmps85
  go_wp2
  refine bodyPost_ret (v := .agg #[.int .i64 (a1 + b1), .int .i64 (a2 + b2), .int .i64 (a3 + b3)]) (by simp [results, Try.results85, go_sem]) rfl ⟨rfl, ?_⟩
  go_grown
theorem fits_any {a1 a2 a3 b1 b2 b3 : Int} {w : World} :
    Calls Try.prog 87 #[.agg #[.int .i64 a1, .int .i64 a2, .int .i64 a3], .agg #[.int .i64 b1, .int .i64 b2, .int .i64 b3]] w fun e w' => e = .returned (.bool (decide (a1 ≤ b1) && (decide (a2 ≤ b2) && decide (a3 ≤ b3)))) ∧ Below w.heap.size w w' := by
  have hb : Below w.heap.size w ((w.alloc (.cells #[.int .i64 a1, .int .i64 a2, .int .i64 a3] 36)).alloc (.cells #[.int .i64 b1, .int .i64 b2, .int .i64 b3] 36)) := ((Below.refl _ _).alloc (Nat.le_refl _) _).alloc (by simp) _
  by_cases c1 : a1 ≤ b1 <;> by_cases c2 : a2 ≤ b2 <;> by_cases c3 : a3 ≤ b3 <;>
    (go_enter Try.func87, Try.ntmps87
     go_wp2
     go_ret
     exact ⟨ret_bool (by simp [c1, c2, c3]), hb⟩)
def groupedI (l : List GroupR) (a b c : Int) : Int := if groupBAll l && roomB a b c then 0 else 1
theorem grouped_any {A : Option Addr} {n c B : Nat} {l : List GroupR} {a1 a2 a3 : Int} {w : World} (h : Reads w B 4 A n (l.flatMap GroupR.cells)) (hB : B ≤ w.heap.size) (hn : n ≤ 1048576) (hF : ∀ x ∈ l, x.Id.size ≤ 1048576) :
    Calls Try.prog 48 #[.slice A n c, .agg #[.int .i64 a1, .int .i64 a2, .int .i64 a3]] w fun e w' => e = .returned (.int .i64 (groupedI l a1 a2 a3)) ∧ Below w.heap.size w w' := by
  have Hr : Hid (groupedI l a1 a2 a3 = if groupBAll l && roomB a1 a2 a3 then 0 else 1) := Lib.hid rfl
  have pre : Below w.heap.size w (w.alloc (.cells #[.int .i64 a1, .int .i64 a2, .int .i64 a3] 36)) := (Below.refl _ _).alloc (Nat.le_refl _) _
  have hsz : w.heap.size < (w.alloc (.cells #[.int .i64 a1, .int .i64 a2, .int .i64 a3] 36)).heap.size := by simp
  have c0 : (w.alloc (.cells #[.int .i64 a1, .int .i64 a2, .int .i64 a3] 36)).cell? ⟨w.heap.size, 0, none⟩ = some (.int .i64 a1) := by simp
  have c1 : (w.alloc (.cells #[.int .i64 a1, .int .i64 a2, .int .i64 a3] 36)).cell? ⟨w.heap.size, 1, none⟩ = some (.int .i64 a2) := by simp
  have c2 : (w.alloc (.cells #[.int .i64 a1, .int .i64 a2, .int .i64 a3] 36)).cell? ⟨w.heap.size, 2, none⟩ = some (.int .i64 a3) := by simp
  go_enter Try.func48, Try.ntmps48
  go_wp2_with fail
  generalize w.alloc (.cells #[.int .i64 a1, .int .i64 a2, .int .i64 a3] 36) = W1 at *
  refine (validGroupsI_any (Reads.below h pre hB) (by omega) hn hF).mono ?_
  rintro e w2 ⟨rfl, b⟩
  have d0 := (b.cell (p := ⟨w.heap.size, 0, none⟩) hsz).trans c0
  have d1 := (b.cell (p := ⟨w.heap.size, 1, none⟩) hsz).trans c1
  have d2 := (b.cell (p := ⟨w.heap.size, 2, none⟩) hsz).trans c2
  have bel := pre.trans (b.mono pre.size)
  clear pre b c0 c1 c2
  cases v1 : groupBAll l with
  | false =>
    go_wp2_with fail
    go_ret
    exact ⟨ret_int (by rw [Hr.out, v1]; rfl), bel⟩
  | true =>
    have V1 := Lib.hid v1
    clear v1
    go_wp2_with fail
    refine validRoom_any.mono ?_
    rintro e w3 ⟨rfl, b3⟩
    have bel3 := bel.trans (b3.mono bel.size)
    cases v2 : roomB a1 a2 a3 with
    | false =>
      go_wp2_with fail
      go_ret
      exact ⟨ret_int (by rw [Hr.out, V1.out, v2]; rfl), bel3⟩
    | true =>
      go_wp2_with fail
      go_ret
      exact ⟨ret_int (by rw [Hr.out, V1.out, v2]; rfl), bel3⟩
theorem l17Ask_any {A : Option Addr} {n c B : Nat} {l : List GroupR} {p : Addr} {a1 a2 a3 : Int} {w : World} (h : Reads w B 4 A n (l.flatMap GroupR.cells)) (hB : B ≤ w.heap.size) (hn : n ≤ 1048576) (hF : ∀ x ∈ l, x.Id.size ≤ 1048576)
    (h0 : w.cell? p = some (.int .i64 a1)) (h1 : w.cell? ⟨p.block, p.off + 1, none⟩ = some (.int .i64 a2)) (h2 : w.cell? ⟨p.block, p.off + 2, none⟩ = some (.int .i64 a3)) :
    Calls Try.prog 80 #[.slice A n c, .pointer (some p)] w fun e w' => e = .returned (.int .i64 (groupedI l a1 a2 a3)) ∧ Below w.heap.size w w' := by
  have Hr : Hid (groupedI l a1 a2 a3 = if groupBAll l && roomB a1 a2 a3 then 0 else 1) := Lib.hid rfl
  have hp : p.block < w.heap.size := block_lt_of_cell h0
  go_enter Try.func80, Try.ntmps80
  go_wp2_with fail
  refine (l17Ok_any h hB hn hF).mono ?_
  rintro e w2 ⟨rfl, b⟩
  have d0 := (b.cell (p := p) hp).trans h0
  have d1 := (b.cell (p := ⟨p.block, p.off + 1, none⟩) hp).trans h1
  have d2 := (b.cell (p := ⟨p.block, p.off + 2, none⟩) hp).trans h2
  clear h0 h1 h2
  cases v1 : groupBAll l with
  | false =>
    go_wp2_with fail
    go_ret
    exact ⟨ret_int (by rw [Hr.out, v1]; rfl), b⟩
  | true =>
    have V1 := Lib.hid v1
    clear v1
    go_wp2_with fail
    refine (l17Room_any d0 d1 d2).mono ?_
    rintro e w3 ⟨rfl, rfl⟩
    cases v2 : roomB a1 a2 a3 with
    | false =>
      go_wp2_with fail
      go_ret
      exact ⟨ret_int (by rw [Hr.out, V1.out, v2]; rfl), b⟩
    | true =>
      go_wp2_with fail
      go_ret
      exact ⟨ret_int (by rw [Hr.out, V1.out, v2]; rfl), b⟩
def beginI (l : List GroupR) (a b c budget : Int) : Int := if groupBAll l && roomB a b c then (if inB budget 1 20000 then 0 else 2) else 1
theorem l17Begin_any {A : Option Addr} {n c B : Nat} {l : List GroupR} {p : Addr} {a1 a2 a3 budget : Int} {w : World} (h : Reads w B 4 A n (l.flatMap GroupR.cells)) (hB : B ≤ w.heap.size) (hn : n ≤ 1048576) (hF : ∀ x ∈ l, x.Id.size ≤ 1048576)
    (h0 : w.cell? p = some (.int .i64 a1)) (h1 : w.cell? ⟨p.block, p.off + 1, none⟩ = some (.int .i64 a2)) (h2 : w.cell? ⟨p.block, p.off + 2, none⟩ = some (.int .i64 a3)) :
    Calls Try.prog 44 #[.slice A n c, .pointer (some p), .int .i64 budget] w fun e w' => e = .returned (.int .i64 (beginI l a1 a2 a3 budget)) ∧ Below w.heap.size w w' := by
  have Hr : Hid (beginI l a1 a2 a3 budget = if groupBAll l && roomB a1 a2 a3 then (if inB budget 1 20000 then 0 else 2) else 1) := Lib.hid rfl
  have Hg : Hid (groupedI l a1 a2 a3 = if groupBAll l && roomB a1 a2 a3 then 0 else 1) := Lib.hid rfl
  go_enter Try.func44, Try.ntmps44
  go_wp2_with fail
  refine (l17Ask_any h hB hn hF h0 h1 h2).mono ?_
  rintro e w2 ⟨rfl, b⟩
  rw [Hg.out]
  cases v1 : groupBAll l && roomB a1 a2 a3 with
  | false =>
    have V1 := Lib.hid v1
    clear v1
    rw [if_neg (by simp)]
    go_wp2_with fail
    go_ret
    exact ⟨ret_int (by rw [Hr.out, V1.out]; rfl), b⟩
  | true =>
    have V1 := Lib.hid v1
    clear v1
    rw [if_pos rfl]
    cases v2 : inB budget 1 20000 with
    | false =>
      have V2 := Lib.hid v2
      clear v2
      go_wp2_with (go_at_call 36; refine (in_any _ _ _ _).mono ?_; rintro e w' ⟨rfl, rfl⟩; rw [V2.out])
      go_ret
      exact ⟨ret_int (by rw [Hr.out, V1.out, V2.out]; rfl), b⟩
    | true =>
      have V2 := Lib.hid v2
      clear v2
      go_wp2_with (go_at_call 36; refine (in_any _ _ _ _).mono ?_; rintro e w' ⟨rfl, rfl⟩; rw [V2.out])
      go_ret
      exact ⟨ret_int (by rw [Hr.out, V1.out, V2.out]; rfl), b⟩
theorem size_Group_any (A : Option Addr) (n c : Nat) (w : World) (hn : n ≤ 140737488351232) : Calls Try.prog 84 #[.slice A n c] w fun e w' => e = .returned (.int .i64 (n : Int)) ∧ w = w' := by
  go_enter Try.func84, Try.ntmps84
  go_wp2
  go_ret
  exact ⟨rfl, rfl⟩
theorem l17Kilos_any {p : Addr} {x : GroupR} {w : World} (h1 : w.cell? ⟨p.block, p.off + 1, none⟩ = some (.int .i64 x.People)) (h2 : w.cell? ⟨p.block, p.off + 2, none⟩ = some (.int .i64 x.Bikes)) (h3 : w.cell? ⟨p.block, p.off + 3, none⟩ = some (.int .i64 x.Kilos))
    (k1 : 0 ≤ x.People ∧ x.People ≤ 200) (k2 : 0 ≤ x.Bikes ∧ x.Bikes ≤ 40) (k3 : 0 ≤ x.Kilos ∧ x.Kilos ≤ 100000) :
    Calls Try.prog 96 #[.pointer (some p)] w fun e w' => e = .returned (.int .i64 (kiloG x)) ∧ ∃ d, w' = w.drewN d := by
  have Hk : Hid (kiloG x = x.People * 75 + x.Bikes * 15 + x.Kilos) := Lib.hid (by unfold kiloG; omega)
  have q1 : IntKind.i64.wrap (x.People * 75) = x.People * 75 := IntWalk.i64_in _ (by omega)
  have q2 : IntKind.i64.wrap (x.Bikes * 15) = x.Bikes * 15 := IntWalk.i64_in _ (by omega)
  have q3 : IntKind.i64.wrap (x.People * 75 + x.Bikes * 15) = x.People * 75 + x.Bikes * 15 := IntWalk.i64_in _ (by omega)
  have q4 : IntKind.i64.wrap (x.People * 75 + x.Bikes * 15 + x.Kilos) = x.People * 75 + x.Bikes * 15 + x.Kilos := IntWalk.i64_in _ (by omega)
  go_enter Try.func96, Try.ntmps96
  go_wp2_with fail
  go_quiet (fail)
  go_wp2_with fail
  go_ret
  exact ⟨ret_int (by rw [Hk.out]), _, rfl⟩
end Go.Proofs.Ytmnpehajojdhcaa
