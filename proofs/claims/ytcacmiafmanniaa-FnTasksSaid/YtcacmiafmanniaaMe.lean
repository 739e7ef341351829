/- Helpers: WithoutHelper: contracts of both sides. -/
import Derived.Test.YtcacmiafmanniaaMc
import Derived.Test.YtcacmiafmanniaaC
import Derived.Deep.RegionHeld3
namespace Go.Proofs.Ytcacmiafmanniaa
open Go.RowKit
set_option maxRecDepth 100000
set_option linter.unusedVariables false
set_option linter.unusedSimpArgs false

/-! ### plain: names differ -/
theorem bytesLess_irrefl : ∀ x : List UInt8, Op.bytesLess x x = false := by
  intro x
  induction x with
  | nil => rfl
  | cons a x ih => simp [Op.bytesLess, ih]
theorem bytesLess_trans : ∀ x y z : List UInt8, Op.bytesLess x y = true → Op.bytesLess y z = true → Op.bytesLess x z = true := by
  intro x
  induction x with
  | nil =>
    intro y z h1 h2
    cases z with
    | nil => cases y <;> simp [Op.bytesLess] at h2
    | cons c z => rfl
  | cons a x ih =>
    intro y z h1 h2
    cases y with
    | nil => simp [Op.bytesLess] at h1
    | cons b y =>
      cases z with
      | nil => simp [Op.bytesLess] at h2
      | cons c z =>
        simp only [Op.bytesLess, Bool.or_eq_true, Bool.and_eq_true, decide_eq_true_eq, beq_iff_eq] at h1 h2 ⊢
        rcases h1 with h1 | ⟨h1, h1'⟩
        · rcases h2 with h2 | ⟨h2, h2'⟩
          · left
            rw [UInt8.lt_iff_toNat_lt] at h1 h2 ⊢
            omega
          · subst h2; exact .inl h1
        · subst h1
          rcases h2 with h2 | ⟨h2, h2'⟩
          · exact .inl h2
          · exact .inr ⟨h2, ih y z h1' h2'⟩
theorem helpers_lt {l : List HelperR} (h : helperBAll l = true) : ∀ d i, i + d + 1 < l.length → sLt (HelperR.at_ l i).Id (HelperR.at_ l (i + d + 1)).Id = true := by
  have hs : ∀ i, i + 1 < l.length → sLt (HelperR.at_ l i).Id (HelperR.at_ l (i + 1)).Id = true := by
    intro i hi
    simp only [helperBAll, Bool.and_eq_true] at h
    have := allTo_true.1 h.1 (i + 1) hi
    simp only [helperBAt, Bool.and_eq_true, Bool.or_eq_true, decide_eq_true_eq, Nat.add_sub_cancel] at this
    rcases this.2 with h0 | h0
    · omega
    · exact h0
  intro d
  induction d with
  | zero => exact hs
  | succ d ih =>
    intro i hi
    exact bytesLess_trans _ _ _ (ih i (by omega)) (hs (i + d + 1) (by omega))
def eqH (l : List HelperR) (id : ByteArray) (k : Nat) : Bool := (HelperR.at_ l k).Id.toList == id.toList
theorem one_onlyH {l : List HelperR} {id : ByteArray} (h : helperBAll l = true) {i j : Nat} (hij : i < j) (hj : j < l.length) (hi : eqH l id i = true) : eqH l id j = false := by
  cases hp : eqH l id j with
  | false => rfl
  | true =>
    have h1 := helpers_lt h (j - i - 1) i (by omega)
    rw [show i + (j - i - 1) + 1 = j by omega] at h1
    unfold eqH at hi hp
    rw [beq_iff_eq] at hi hp
    unfold sLt at h1
    rw [hi, hp, bytesLess_irrefl] at h1
    cases h1
/-- Those of the first k with another name. -/
def keepTo (l : List HelperR) (id : ByteArray) : Nat → List HelperR
  | 0 => []
  | k + 1 => keepTo l id k ++ (if eqH l id k then [] else [HelperR.at_ l k])
theorem keepTo_succ (l : List HelperR) (id : ByteArray) (k : Nat) : keepTo l id (k + 1) = keepTo l id k ++ (if eqH l id k then [] else [HelperR.at_ l k]) := rfl
theorem keepTo_le (l : List HelperR) (id : ByteArray) : ∀ k, (keepTo l id k).length ≤ k := by
  intro k
  induction k with
  | zero => simp [keepTo]
  | succ k ih => rw [keepTo_succ, List.length_append]; split <;> simp <;> omega
theorem keepTo_none {l : List HelperR} {id : ByteArray} : ∀ k, k ≤ l.length → (∀ j, j < k → eqH l id j = false) → keepTo l id k = l.take k := by
  intro k
  induction k with
  | zero => intro _ _; simp [keepTo]
  | succ k ih =>
    intro hk h
    rw [keepTo_succ, h k (by omega), ih (by omega) (fun j hj => h j (by omega)), take_succ_at HelperR.zero (by omega)]; rfl
theorem keepTo_one {l : List HelperR} {id : ByteArray} {k : Nat} (h : helperBAll l = true) (hk : k < l.length) (h1 : eqH l id k = true) (h0 : ∀ j, j < k → eqH l id j = false) :
    ∀ m, k + 1 + m ≤ l.length → keepTo l id (k + 1 + m) = l.take k ++ (l.drop (k + 1)).take m := by
  intro m
  induction m with
  | zero => intro _; rw [Nat.add_zero, keepTo_succ, h1, keepTo_none k (by omega) h0]; simp
  | succ m ih =>
    intro hm
    rw [show k + 1 + (m + 1) = (k + 1 + m) + 1 by omega, keepTo_succ, one_onlyH h (show k < k + 1 + m by omega) (by omega) h1, ih (by omega), List.append_assoc]
    congr 1
    rw [take_succ_at HelperR.zero (by rw [List.length_drop]; omega)]
    congr 1
    simp [HelperR.at_, List.getD, List.getElem?_drop]
def rWithoutHelper (l : List HelperR) (id : ByteArray) : List HelperR × Int :=
  if helperBAll l then (if allTo (fun j => !eqH l id j) l.length then ([], 3) else (keepTo l id l.length, 0)) else ([], 1)
theorem helpers_one (l : List HelperR) : ∀ u ∈ l.flatMap HelperR.cells, u.oneCell' = true := by
  intro u hu
  obtain ⟨x, _, hx⟩ := List.mem_flatMap.1 hu
  simp only [HelperR.cells, List.mem_cons, List.not_mem_nil, or_false] at hx
  rcases hx with rfl | rfl | rfl <;> rfl
theorem helper_one (x : HelperR) : ∀ u ∈ x.cells, u.oneCell' = true := by
  intro u hx
  simp only [HelperR.cells, List.mem_cons, List.not_mem_nil, or_false] at hx
  rcases hx with rfl | rfl | rfl <;> rfl

theorem cells_new (w : World) (xs : List Value) (t : TypeId) : ∀ j u, xs[j]? = some u → (w.alloc (.cells xs.toArray t)).cell? ((⟨w.heap.size, 0, none⟩ : Addr).add j) = some u := by
  intro j u hu
  rw [Addr.add_lit, Nat.zero_add]
  simpa using hu
theorem grow_Helper_any {n : Nat} {w : World} (hn : n ≤ 1099511627776) :
    Calls Try.prog 58 #[.slice none 0 0, .int .i64 n] w fun e w' => ∃ A' c', e = .returned (.slice A' 0 c') ∧ Own w' w.heap.size 35 3 A' 0 c' [] ∧ Below w.heap.size w w' := by
  obtain ⟨i0, hi, hz0, hz1, hz2⟩ := info_parts info_Helper
  by_cases h0 : n = 0
  · subst h0
    go_enter Try.func58, Try.ntmps58
    go_wp2_with fail
    go_ret
    exact ⟨none, 0, rfl, Own.nil _ _ _ _, Below.refl _ _⟩
  · have hq : IntKind.i64.wrap ((n : Int) - 0) = n := IntWalk.i64_in _ (by omega)
    have hr := fun (w : World) => Lib.run_append_nil_zeros (P := Try.prog) w 24 3 24 35 i0 _ .i64 .i64 Try.underlying24 Try.underlying3 hi hz0 n (by omega) (by omega) (by omega) (by rw [hz2]; omega)
    have hge := grownCap_ge w n 0 35
    have hcm : grownCap w n 0 35 ≤ maxLen := grownCap_le_maxLen w n 0 35 (by unfold maxLen; omega)
    go_enter Try.func58, Try.ntmps58
    go_wp2_with (at_builtin; refine Lib.wpList_append_run _ rfl _ _ _ _ rfl _ _ rfl rfl _ _ (hr _) ?_)
    generalize grownCap w n 0 35 = cap at hge hcm ⊢
    go_wp2_with fail
    go_ret
    exact ⟨_, cap, rfl, World.ownsRow_made w _ cap (Nat.le_refl _) hcm (by simp [Builtin.zeroCells, Value.cells]; omega), ((Below.refl _ _).alloc (Nat.le_refl _) _).drew⟩
theorem concat_Helper_any {A A' : Option Addr} {n n' c c' B b cc : Nat} {z z' : List HelperR} {w : World} (h : Reads w B 3 A n (z.flatMap HelperR.cells)) (h' : Reads w B 3 A' n' (z'.flatMap HelperR.cells)) (hB : B ≤ w.heap.size) (hn : n ≤ 1048576) (hn' : n' ≤ 1048576)
    (hb : b < w.heap.size) (g0 : w.cell? ⟨b, 0, none⟩ = some (.slice A n c)) (g1 : w.cell? ⟨b, 1, none⟩ = some (.slice A' n' c')) :
    Calls Try.prog 49 #[.slice (some ⟨b, 0, none⟩) 2 cc] w fun e w' => ∃ A2 c2, e = .returned (.slice A2 (n + n') c2) ∧ Own w' w.heap.size 35 3 A2 (n + n') c2 ((z ++ z').flatMap HelperR.cells) ∧ Below w.heap.size w w' := by
  obtain ⟨i0, hi, hz0, hz1, hz2⟩ := info_parts info_Helper
  go_enter Try.func49, Try.ntmps49
  go_wp2_with fail
  go_loopg [3, 11] 2 (fun gk s i wr => ∃ k : Nat, k ≤ 2 ∧ gk + k = 2 ∧ i = .int .i64 k ∧ s = .int .i64 (if k = 0 then 0 else if k = 1 then n else n + n' : Nat) ∧ w = wr)
  case atStart => exact ⟨0, by omega, rfl, rfl, rfl, rfl⟩
  case round =>
    obtain ⟨k, hk, hgk, rfl, rfl, rfl⟩ := hrel
    have h3 : k = 0 ∨ k = 1 ∨ k = 2 := by omega
    rcases h3 with rfl | rfl | rfl
    · go_wp2_with fail
      go_roundg 1
      case rel => exact ⟨1, by omega, by omega, by go_num, by simp, rfl⟩
      case measure => omega
    · go_wp2_with fail
      go_roundg 0
      case rel => exact ⟨2, by omega, by omega, by go_num, by simp, rfl⟩
      case measure => omega
    · go_wp2_with fail
      refine (grow_Helper_any (n := n + n') (by omega)).mono ?_
      rintro e w1 ⟨A1, c1, rfl, ho, hb1⟩
      have hbs := hb1.size
      go_wp2_with fail
      have hr0 := Reads.below h hb1 hB
      have hr0' := Reads.below h' hb1 hB
      replace g0 := (hb1.cell (p := ⟨b, 0, none⟩) hb).trans g0
      replace g1 := (hb1.cell (p := ⟨b, 1, none⟩) hb).trans g1
      go_loopg [6, 27] 2 (fun gk v i wr => ∃ (k : Nat) (A2 : Option Addr) (c2 : Nat), k ≤ 2 ∧ gk + k = 2 ∧ i = .int .i64 k ∧ v = .slice A2 (if k = 0 then 0 else if k = 1 then n else n + n' : Nat) c2 ∧
        Own wr w.heap.size 35 3 A2 (if k = 0 then 0 else if k = 1 then n else n + n' : Nat) c2 ((if k = 0 then [] else if k = 1 then z else z ++ z').flatMap HelperR.cells) ∧ Below w.heap.size w wr)
      case atStart => exact ⟨0, A1, c1, by omega, rfl, rfl, rfl, ho, hb1⟩
      case round =>
        obtain ⟨k, A2, c2, hk, hgk, rfl, rfl, ho, hbw⟩ := hrel
        have hbs := hbw.size
        have f0 : wr.cell? ⟨b, 0, none⟩ = some (.slice A n c) := by have := (hbw.cell (p := ⟨b, 0, none⟩) hb).trans (((hb1.cell (p := ⟨b, 0, none⟩) hb)).symm.trans g0); exact this
        have f1 : wr.cell? ⟨b, 1, none⟩ = some (.slice A' n' c') := by have := (hbw.cell (p := ⟨b, 1, none⟩) hb).trans (((hb1.cell (p := ⟨b, 1, none⟩) hb)).symm.trans g1); exact this
        have h3 : k = 0 ∨ k = 1 ∨ k = 2 := by omega
        rcases h3 with rfl | rfl | rfl
        · simp only [if_true] at ho ⊢
          go_wp2_with (at_builtin; refine wpList_appS rfl (.tmp 31) (.tmp 32) 24 rfl 35 i0 _ 3 32 Try.underlying24 hi hz0 hz1 hz2 rfl (by omega) (by omega) w.heap.size _ _ _ _ rfl ho B A n c _ rfl (Reads.below h hbw hB) (helpers_one _) (by omega) hbs ?_)
          intro A3 c3 w3 ho3 hg hb3 hat
          go_wp2_with fail
          go_roundg 1
          case rel => exact ⟨1, A3, c3, by omega, by omega, by go_num, by simp, by simpa using ho3, hbw.trans hb3⟩
          case measure => omega
        · simp only [if_true, if_false, Nat.one_ne_zero] at ho ⊢
          go_wp2_with (at_builtin; refine wpList_appS rfl (.tmp 31) (.tmp 32) 24 rfl 35 i0 _ 3 32 Try.underlying24 hi hz0 hz1 hz2 rfl (by omega) (by omega) w.heap.size _ _ _ _ rfl ho B A' n' c' _ rfl (Reads.below h' hbw hB) (helpers_one _) (by omega) hbs ?_)
          intro A3 c3 w3 ho3 hg hb3 hat
          go_wp2_with fail
          go_roundg 0
          case rel => exact ⟨2, A3, c3, by omega, by omega, by go_num, by simp, by simpa using ho3, hbw.trans hb3⟩
          case measure => omega
        · simp only [show ¬ (2 : Nat) = 0 by omega, show ¬ (2 : Nat) = 1 by omega, if_false] at ho ⊢
          go_wp2_with fail
          go_ret
          exact ⟨A2, c2, rfl, ho, hbw⟩


theorem indexH1_any (K : Nat) (hK : ∀ args w, (callFunc K args).run Try.prog w = .ok (.enter K args) w) (f : HelperR → Bool) (v1 : Value) (w : World)
    (hf : Hid (∀ w', Below w.heap.size w w' → ∀ x : HelperR, Calls Try.prog K #[.agg #[.string x.Id, .int .i64 x.Skills, .int .i64 x.Minutes], v1] w' fun e w'' => e = .returned (.bool (f x)) ∧ Below w'.heap.size w' w''))
    (A : Option Addr) (n c B : Nat) (l : List HelperR) (h : Reads w B 3 A n (l.flatMap HelperR.cells)) (hB : B ≤ w.heap.size) (hn : n ≤ 140737488351232) :
    Calls Try.prog 30 #[.slice A n c, .func (.func K) #[] #[v1]] w fun e w' => e = .returned (.int .i64 (firstTo (fun k => f (HelperR.at_ l k)) l.length)) ∧ Below w.heap.size w w' := by
  have HL := Lib.hid (HelperR.count h)
  go_enter Try.func30, Try.ntmps30
  go_wp2_with fail
  go_loopg [8] n (fun gk i wr => ∃ k : Nat, k ≤ n ∧ gk + k = n ∧ i = .int .i64 k ∧ Below w.heap.size w wr ∧ allTo (fun k => !f (HelperR.at_ l k)) k = true)
  case atStart => exact ⟨0, Nat.zero_le _, rfl, rfl, Below.refl _ _, rfl⟩
  case round =>
    obtain ⟨k, hk, hgk, rfl, hb, hall⟩ := hrel
    have Hgk := Lib.hid hgk
    have Hall := Lib.hid hall
    have hbs := hb.size
    clear hgk hall
    by_cases hlt : k < n
    · obtain ⟨ad, rfl, hbl, hc0, hc1, hc2⟩ := HelperR.rd (Reads.below h hb hB) hlt
      go_wp2_with fail
      refine (hf.out _ hb (HelperR.at_ l k)).mono ?_
      rintro e w2 ⟨rfl, b⟩
      have hb2 := hb.trans (b.mono hbs)
      cases hv : f (HelperR.at_ l k) with
      | true =>
        have Hr : Hid (firstTo (fun k => f (HelperR.at_ l k)) l.length = (k : Nat)) := Lib.hid (firstTo_some (by rw [HL.out]; exact hlt) Hall.out hv)
        go_wp2_with fail
        go_ret
        exact ⟨ret_int (by rw [Hr.out]), hb2⟩
      | false =>
        have Hv := Lib.hid hv
        clear hb b
        go_wp2_with fail
        have hgk := Hgk.out
        go_roundg (gk - 1)
        case rel => exact ⟨k + 1, by omega, by omega, by go_num, hb2, by rw [allTo_succ, Hall.out, Hv.out]; rfl⟩
        case measure => omega
    · have hke : k = n := by omega
      have Hr : Hid (firstTo (fun k => f (HelperR.at_ l k)) l.length = -1) := Lib.hid (firstTo_none (by rw [HL.out, ← hke]; exact Hall.out))
      have hd : ¬ (k : Int) < (n : Int) := by omega
      go_wp2_with fail
      go_ret
      exact ⟨ret_int (by rw [Hr.out]), hb⟩
theorem without1_any {x : HelperR} {id : ByteArray} {bp : Nat} {w : World} (hp : w.cell? ⟨bp, 0, none⟩ = some (.string id)) :
    Calls Try.prog 31 #[.agg #[.string x.Id, .int .i64 x.Skills, .int .i64 x.Minutes], .pointer (some ⟨bp, 0, none⟩)] w fun e w' => e = .returned (.bool (x.Id.toList == id.toList)) ∧ Below w.heap.size w w' := by
  have l1 := World.block_lt_of_cell? w _ hp
  simp only at l1
  go_enter Try.func31, Try.ntmps31
  go_wp2_with fail
  go_ret
  exact ⟨rfl, (Below.refl _ _).alloc (Nat.le_refl _) _⟩
theorem helpers_head {w : World} {B n k : Nat} {A : Option Addr} {l : List HelperR} (h : Reads w B 3 A n (l.flatMap HelperR.cells)) (hk : k ≤ n) : Reads w B 3 A k ((l.take k).flatMap HelperR.cells) := by
  have hl := HelperR.count h
  have e : l.flatMap HelperR.cells = (l.take k).flatMap HelperR.cells ++ (l.drop k).flatMap HelperR.cells := by rw [← List.flatMap_append, List.take_append_drop]
  have h1 := Reads.head h hk
  rw [e, List.take_append_of_le_length (by rw [flat_len _ 3 HelperR.clen, List.length_take]; omega), List.take_of_length_le (by rw [flat_len _ 3 HelperR.clen, List.length_take]; omega)] at h1
  exact h1
theorem helpers_cut {w : World} {B n k cap : Nat} {A : Option Addr} {l : List HelperR} (h : Reads w B 3 A n (l.flatMap HelperR.cells)) (hk : k ≤ n) (hc : n ≤ cap) : Reads w B 3 (if cap = k then A else A.map (·.add (k * 3))) (n - k) ((l.drop k).flatMap HelperR.cells) := by
  have hl := HelperR.count h
  have e : l.flatMap HelperR.cells = (l.take k).flatMap HelperR.cells ++ (l.drop k).flatMap HelperR.cells := by rw [← List.flatMap_append, List.take_append_drop]
  have h1 := Reads.cut h hk hc
  rw [e, List.drop_append_of_le_length (by rw [flat_len _ 3 HelperR.clen, List.length_take]; omega), List.drop_of_length_le (by rw [flat_len _ 3 HelperR.clen, List.length_take]; omega), List.nil_append] at h1
  exact h1
set_option maxHeartbeats 1000000 in
theorem without_any {A : Option Addr} {n c B k : Nat} {l : List HelperR} {w : World} (h : Reads w B 3 A n (l.flatMap HelperR.cells)) (hB : B ≤ w.heap.size) (hc : n ≤ c) (hn : n ≤ 1048576) (hk : k < n) :
    Calls Try.prog 28 #[.slice A n c, .int .i64 k] w fun e w' => ∃ A2 c2, e = .returned (.slice A2 (n - 1) c2) ∧ Own w' w.heap.size 35 3 A2 (n - 1) c2 ((l.take k ++ l.drop (k + 1)).flatMap HelperR.cells) ∧ Below w.heap.size w w' := by
  have hq0 : (0 : Int) ≤ (k : Int) := by omega
  have hq1 : (k : Int) ≤ (c : Int) := by omega
  have hq2 : IntKind.i64.wrap ((k : Int) + 1) = (k : Int) + 1 := IntWalk.i64_in _ (by omega)
  have hq3 : (0 : Int) ≤ (k : Int) + 1 := by omega
  have hq4 : (k : Int) + 1 ≤ (n : Int) := by omega
  have hq5 : ((k : Int) + 1).toNat = k + 1 := by omega
  have hRH := helpers_head h (show k ≤ n by omega)
  have hRX := helpers_cut h (show k + 1 ≤ n by omega) hc
  have hnn : k + (n - (k + 1)) = n - 1 := by omega
  have Hnn := Lib.hid hnn
  clear hnn
  generalize hAX : (if c = k + 1 then A else A.map (·.add ((k + 1) * 3))) = AX at hRX
  go_enter Try.func28, Try.ntmps28
  go_wp2_with fail
  go_region_held3 (fun _ => True) (trivial)
    ((first
      | (go_at_call 49; refine (concat_Helper_any (B := B) (z := l.take k) (z' := l.drop (k + 1)) (A := A) (A' := AX) (n := k) (n' := n - (k + 1)) (c := c) (c' := c - (k + 1)) (by exact Reads.alloc hRH (by omega) _) (by exact Reads.alloc hRX (by omega) _) (by simp; omega) (by omega) (by omega) (by simp) (by simp) (by simp)).mono ?_; rintro e w4 ⟨A4, c4, rfl, o4, b4⟩)))
  rw [Hnn.out] at o4
  rw [Hnn.out]
  go_wp2_with fail
  go_ret
  have hx : w.heap.size ≤ (w.alloc (Obj.cells #[Value.slice A k c, Value.slice AX (n - (k + 1)) (c - (k + 1))] 24)).drew.heap.size := by simp
  exact ⟨A4, c4, rfl, o4.mono hx, (((Below.refl _ _).alloc (Nat.le_refl _) _).drew).trans (b4.mono hx)⟩

theorem keep_all {l : List HelperR} {id : ByteArray} {k : Nat} (h : helperBAll l = true) (hk : k < l.length) (h1 : eqH l id k = true) (h0 : ∀ j, j < k → eqH l id j = false) : keepTo l id l.length = l.take k ++ l.drop (k + 1) := by
  have := keepTo_one h hk h1 h0 (l.length - (k + 1)) (by omega)
  rw [show k + 1 + (l.length - (k + 1)) = l.length by omega] at this
  rw [this, List.take_of_length_le (l := l.drop (k + 1)) (by rw [List.length_drop]; omega)]
theorem keep_len {l : List HelperR} {id : ByteArray} (h : helperBAll l = true) : (keepTo l id l.length).length = l.length ↔ allTo (fun j => !eqH l id j) l.length = true := by
  rcases firstTo_cases (eqH l id) l.length with ⟨_, hno⟩ | ⟨k, hk, _, hyes, hbef⟩
  · have h1 : allTo (fun j => !eqH l id j) l.length = true := allTo_true.2 (fun j hj => by simp [hno j hj])
    rw [keepTo_none _ (Nat.le_refl _) hno, List.take_length]
    simp [h1]
  · have h1 : allTo (fun j => !eqH l id j) l.length = false := allTo_false hk (by simp [hyes])
    rw [keep_all h hk hyes hbef, h1, List.length_append, List.length_take, List.length_drop]
    simp; omega

set_option maxHeartbeats 1000000 in
theorem implWithoutHelper_any {A : Option Addr} {n c B : Nat} {l : List HelperR} {id : ByteArray} {w : World} (h : Reads w B 3 A n (l.flatMap HelperR.cells)) (hB : B ≤ w.heap.size) (hc : n ≤ c) (hn : n ≤ 1048576) (hF : ∀ x ∈ l, x.Id.size ≤ 1048576) (hs : id.size ≤ 1048576) :
    Calls Try.prog 12 #[.slice A n c, .string id] w fun e w' => ∃ A2 n2 c2, e = .returned (.tuple #[.slice A2 n2 c2, .int .i64 (rWithoutHelper l id).2]) ∧ n2 ≤ 1048576 ∧
      Own w' w.heap.size 35 3 A2 n2 c2 ((rWithoutHelper l id).1.flatMap HelperR.cells) ∧ Below w.heap.size w w' := by
  have HL := Lib.hid (HelperR.count h)
  have hK := Try.call31
  have pre : Below w.heap.size w (w.alloc (.cells #[.string id] 9)) := (Below.refl _ _).alloc (Nat.le_refl _) _
  have hsz : w.heap.size < (w.alloc (.cells #[.string id] 9)).heap.size := by simp
  have hp : (w.alloc (.cells #[.string id] 9)).cell? ⟨w.heap.size, 0, none⟩ = some (.string id) := by simp
  have h1 := Reads.below h pre hB
  go_enter Try.func12, Try.ntmps12
  go_wp2_with fail
  generalize w.alloc (.cells #[.string id] 9) = W1 at *
  refine (implValidHelpers_any h1 (by omega) hc hn hF).mono ?_
  rintro e w1 ⟨rfl, b⟩
  have hp1 := (b.cell (p := ⟨w.heap.size, 0, none⟩) hsz).trans hp
  have b1 := pre.trans (b.mono pre.size)
  have hs1 := b1.size
  have hsz1 : w.heap.size < w1.heap.size := Nat.lt_of_lt_of_le hsz b.size
  have h2 := Reads.below h1 b (by omega)
  clear pre hp h1 b hsz
  cases hv : helperBAll l with
  | false =>
    have Hr : Hid (rWithoutHelper l id = ([], 1)) := Lib.hid (by rw [rWithoutHelper, hv]; rfl)
    clear hv
    go_wp2_with fail
    go_ret2
    exact ⟨none, 0, 0, by rw [Hr.out]; rfl, by omega, by rw [Hr.out]; exact Own.nil _ _ _ _, b1⟩
  | true =>
    have Hr : Hid (rWithoutHelper l id = if allTo (fun j => !eqH l id j) l.length then ([], 3) else (keepTo l id l.length, 0)) := Lib.hid (by rw [rWithoutHelper, hv]; rfl)
    have Hck := Lib.hid hv
    clear hv
    have Hcl : Hid (∀ w', Below w1.heap.size w1 w' → ∀ x : HelperR, Calls Try.prog 31 #[.agg #[.string x.Id, .int .i64 x.Skills, .int .i64 x.Minutes], .pointer (some ⟨w.heap.size, 0, none⟩)] w' fun e w'' => e = .returned (.bool (x.Id.toList == id.toList)) ∧ Below w'.heap.size w' w'') :=
      Lib.hid (fun w' hw x => without1_any ((hw.cell (p := ⟨w.heap.size, 0, none⟩) hsz1).trans hp1))
    go_wp2_with fail
    refine (indexH1_any _ hK (fun x => x.Id.toList == id.toList) _ _ Hcl A n c B l h2 (by omega) (by omega)).mono ?_
    rintro e w2 ⟨rfl, b⟩
    have b2 := b1.trans (b.mono hs1)
    have hs2 := b2.size
    have h3 := Reads.below h2 b (by omega)
    clear Hcl hp1 h2 b b1
    rcases firstTo_cases (fun k => (HelperR.at_ l k).Id.toList == id.toList) l.length with ⟨e1, hno⟩ | ⟨k, hk, e1, hyes, hbef⟩
    · rw [e1]
      have Hal : Hid (allTo (fun j => !eqH l id j) l.length = true) := Lib.hid (allTo_true.2 (fun j hj => by have := hno j hj; show (!eqH l id j) = true; rw [eqH, this]; rfl))
      clear e1 hno
      go_wp2_with fail
      go_ret2
      exact ⟨none, 0, 0, by rw [Hr.out, Hal.out]; rfl, by omega, by rw [Hr.out, Hal.out]; exact Own.nil _ _ _ _, b2⟩
    · rw [e1]
      have Hal : Hid (allTo (fun j => !eqH l id j) l.length = false) := Lib.hid (allTo_false hk (by show (!eqH l id k) = false; rw [eqH, hyes]; rfl))
      have Hk : Hid (keepTo l id l.length = l.take k ++ l.drop (k + 1)) := Lib.hid (keep_all Hck.out hk hyes hbef)
      rw [HL.out] at hk
      have hk0' : ¬ (k : Int) < 0 := by omega
      clear e1 hyes hbef
      go_wp2_with fail
      refine (without_any h3 (by omega) hc hn hk).mono ?_
      rintro e w3 ⟨A2, c2, rfl, o3, b3⟩
      go_wp2_with fail
      go_ret2
      exact ⟨A2, _, c2, by rw [Hr.out, Hal.out]; rfl, by omega, by rw [Hr.out, Hal.out]; simp only [Bool.false_eq_true, if_false]; rw [Hk.out]; exact o3.mono hs2, b2.trans (b3.mono hs2)⟩
end Go.Proofs.Ytcacmiafmanniaa
