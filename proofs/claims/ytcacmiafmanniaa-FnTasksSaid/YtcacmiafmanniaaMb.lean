/- Helpers: how many tasks can be filled: contracts of both sides. -/
import Derived.Test.YtcacmiafmanniaaHf
import Derived.Test.YtcacmiafmanniaaMa
import Derived.Laws.BitsAllLaws
namespace Go.Proofs.Ytcacmiafmanniaa
open Go.RowKit
set_option maxRecDepth 100000
set_option linter.unusedVariables false
set_option linter.unusedSimpArgs false

/-- The places of all who can do a task. -/
def csH (l : List HelperR) (t : TaskR) : List Nat := (canTo l t l.length).map Int.toNat
theorem canTo_mem (l : List HelperR) (t : TaskR) : ∀ (k : Nat) (z : Int), z ∈ canTo l t k ↔ ∃ j : Nat, j < k ∧ z = j ∧ canB (HelperR.at_ l j) t = true := by
  intro k
  induction k with
  | zero => intro z; simp [canTo]
  | succ k ih =>
    intro z
    rw [canTo_succ, List.mem_append, ih z]
    constructor
    · rintro (⟨j, h1, h2⟩ | h)
      · exact ⟨j, by omega, h2⟩
      · split at h
        · rename_i hc; exact ⟨k, by omega, by simpa using h, hc⟩
        · cases h
    · rintro ⟨j, h1, h2, h3⟩
      by_cases e : j = k
      · subst e; right; rw [if_pos h3]; simp [h2]
      · exact .inl ⟨j, by omega, h2, h3⟩
theorem csH_mem (l : List HelperR) (t : TaskR) (k : Nat) : k ∈ csH l t ↔ k < l.length ∧ canB (HelperR.at_ l k) t = true := by
  unfold csH
  rw [List.mem_map]
  constructor
  · rintro ⟨z, hz, rfl⟩
    obtain ⟨j, h1, rfl, h3⟩ := (canTo_mem l t _ z).1 hz
    exact ⟨h1, h3⟩
  · rintro ⟨h1, h2⟩
    exact ⟨(k : Int), (canTo_mem l t _ _).2 ⟨k, h1, rfl, h2⟩, rfl⟩
theorem canTo_nth (l : List HelperR) (t : TaskR) (i : Nat) (h : i < (canTo l t l.length).length) : ∃ k : Nat, nth (canTo l t l.length) i = k ∧ k < l.length ∧ (csH l t).getD i 0 = k := by
  obtain ⟨j, h1, h2, h3⟩ := (canTo_mem l t _ _).1 (nth_mem h)
  refine ⟨j, h2, h1, ?_⟩
  unfold csH
  rw [List.getD, List.getElem?_map, getElem?_nth h, h2]; rfl
theorem csH_len (l : List HelperR) (t : TaskR) : (csH l t).length = (canTo l t l.length).length := by simp [csH]
theorem mfill_le {τ : Type} (cs : τ → List Nat) (ts : List τ) (used : Nat) : mfill cs ts used ≤ ts.length := (mfill_opt cs ts used).le
theorem foldM_take (mm : Nat → Nat) (cap used : Nat) (l : List Nat) (i : Nat) (h : i < l.length) (m : Nat) :
    (l.take (i + 1)).foldl (stepM mm cap used) m = stepM mm cap used ((l.take i).foldl (stepM mm cap used) m) (l.getD i 0) := by
  rw [List.take_succ_eq_append_getElem h, List.foldl_append]
  simp [List.getD, List.getElem?_eq_getElem h]
theorem shr_bit (u k : Nat) : u / 2 ^ k % 2 = if u.testBit k then 1 else 0 := by
  rw [Nat.testBit_eq_decide_div_mod_eq]
  have := Nat.mod_two_eq_zero_or_one (u / 2 ^ k)
  rcases this with h | h <;> simp [h]
theorem or_lt {u k : Nat} (hu : u < 1024) (hk : k < 10) : u ||| 1 <<< k < 1024 := by
  rw [Nat.one_shiftLeft]
  exact Nat.or_lt_two_pow (n := 10) hu (Nat.pow_lt_pow_right (by omega) hk)

theorem i64_or_nat (a b : Nat) (ha : a < 1024) (hb : b < 1024) : bits .or .i64 (a : Int) (b : Int) = ((a ||| b : Nat) : Int) := by
  have hx : a ||| b < 2 ^ 10 := Nat.or_lt_two_pow (by omega) (by omega)
  show IntKind.i64.wrap ((BitVec.ofInt 64 (a : Int) ||| BitVec.ofInt 64 (b : Int)).toNat : Int) = _
  rw [BitVec.toNat_or, ofInt_u64 a (by omega), ofInt_u64 b (by omega), IntKind.wrap_i64]
  omega
theorem i64_and_nat (a b : Nat) (ha : a < 1024) (hb : b < 1024) : bits .and .i64 (a : Int) (b : Int) = ((a &&& b : Nat) : Int) := by
  have hx : a &&& b < 2 ^ 10 := Nat.and_lt_two_pow _ (by omega)
  show IntKind.i64.wrap ((BitVec.ofInt 64 (a : Int) &&& BitVec.ofInt 64 (b : Int)).toNat : Int) = _
  rw [BitVec.toNat_and, ofInt_u64 a (by omega), ofInt_u64 b (by omega), IntKind.wrap_i64]
  omega
theorem and_bit {u k : Nat} (hu : u < 1024) : (bits BinOp.and IntKind.i64 ((u : Int) / 2 ^ k) 1 == 0) = !u.testBit k := by
  have e : (u : Int) / 2 ^ k = ((u / 2 ^ k : Nat) : Int) := by
    rw [Int.natCast_ediv, Int.natCast_pow]; rfl
  have hle : u / 2 ^ k ≤ u := Nat.div_le_self _ _
  have h := i64_and_nat (u / 2 ^ k) 1 (by omega) (by omega)
  rw [nat_mask1, shr_bit] at h
  rw [e]
  have h1 : ((1 : Nat) : Int) = 1 := rfl
  rw [h1] at h
  rw [h]
  cases u.testBit k <;> rfl
theorem or_bit {u k : Nat} (hu : u < 1024) (hk : k < 10) : bits BinOp.or IntKind.i64 (u : Int) (IntKind.i64.wrap (2 ^ k)) = ((u ||| 1 <<< k : Nat) : Int) := by
  have h2 : 2 ^ k < 1024 := Nat.pow_lt_pow_right (a := 2) (by omega) hk
  have e : ((2 : Int) ^ k) = ((2 ^ k : Nat) : Int) := by rw [Int.natCast_pow]; rfl
  have e2 : IntKind.i64.wrap ((2 ^ k : Nat) : Int) = ((2 ^ k : Nat) : Int) := by
    generalize 2 ^ k = z at h2
    exact IntWalk.i64_in _ (by omega)
  rw [e, e2, i64_or_nat _ _ hu h2, Nat.one_shiftLeft]
theorem size_Task_any (A : Option Addr) (n c : Nat) (w : World) (hn : n ≤ 1048576) :
    Calls Try.prog 48 #[.slice A n c] w fun e w' => e = .returned (.int .i64 n) ∧ w = w' := by
  go_enter Try.func48, Try.ntmps48
  go_wp2
  go_ret
  exact ⟨rfl, rfl⟩
theorem tasks_tail {w : World} {B n c : Nat} {A : Option Addr} {t : TaskR} {tl : List TaskR} (h : Reads w B 3 A n ((t :: tl).flatMap TaskR.cells)) (hc : n ≤ c) :
    Reads w B 3 (if c = 1 then A else A.map (·.add 3)) (n - 1) (tl.flatMap TaskR.cells) := by
  have hl : (t :: tl).length = n := TaskR.count h
  have := Reads.cut h (k := 1) (by rw [← hl]; simp) hc
  rw [Nat.one_mul] at this
  exact this

set_option maxHeartbeats 1000000 in
theorem mostFilled_any : ∀ (tl : List TaskR) {A A'' : Option Addr} {n c B nt ct B'' : Nat} {l : List HelperR} {used : Nat} {w : World} (h : Reads w B 3 A n (l.flatMap HelperR.cells)) (hB : B ≤ w.heap.size) (hn : n ≤ 10)
    (hsk : ∀ k, k < l.length → 0 ≤ (HelperR.at_ l k).Skills ∧ (HelperR.at_ l k).Skills ≤ 7) (h'' : Reads w B'' 3 A'' nt (tl.flatMap TaskR.cells)) (hB'' : B'' ≤ w.heap.size) (hct : nt ≤ ct) (hnt : nt ≤ 1048576)
    (htk : ∀ k, k < tl.length → 0 ≤ (TaskR.at_ tl k).Skills ∧ (TaskR.at_ tl k).Skills ≤ 7) (hu : used < 1024),
    Calls Try.prog 27 #[.slice A n c, .slice A'' nt ct, .int .i64 used] w fun e w' => e = .returned (.int .i64 (mfill (csH l) tl used : Nat)) ∧ Below w.heap.size w w' := by
  intro tl
  induction tl with
  | nil =>
    intro A A'' n c B nt ct B'' l used w h hB hn hsk h'' hB'' hct hnt htk hu
    have h0 : nt = 0 := by have := TaskR.count h''; simpa using this.symm
    subst h0
    go_enter Try.func27, Try.ntmps27
    go_wp2_with fail
    go_ret
    exact ⟨rfl, Below.refl _ _⟩
  | cons t tl ih =>
    intro A A'' n c B nt ct B'' l used w h hB hn hsk h'' hB'' hct hnt htk hu
    have hl : tl.length + 1 = nt := by have := TaskR.count h''; simpa using this
    have HL := Lib.hid (HelperR.count h)
    have ht := tasks_tail h'' hct
    have Htk : Hid (∀ k, k < tl.length → 0 ≤ (TaskR.at_ tl k).Skills ∧ (TaskR.at_ tl k).Skills ≤ 7) := Lib.hid (fun k hk => by have := htk (k + 1) (by simpa using hk); simpa [TaskR.at_, List.getD] using this)
    have ht0 : 0 ≤ t.Skills ∧ t.Skills ≤ 7 := by have := htk 0 (by simp); simpa [TaskR.at_, List.getD] using this
    have Hsk := Lib.hid hsk
    obtain ⟨ad, hA, hbl, e0, e1, e2⟩ := TaskR.rd0 h'' (by omega)
    subst hA
    obtain ⟨AX, nX, cX, hAX, hRX, hcX, hnX⟩ : ∃ (AX : Option Addr) (nX cX : Nat), ((ct = 1 ∧ AX = some ad ∧ nX = 0 ∧ cX = 0) ∨ (¬ ct = 1 ∧ AX = some ⟨ad.block, ad.off + 3, none⟩ ∧ nX = nt - 1 ∧ cX = ct - 1)) ∧ Reads w B'' 3 AX nX (tl.flatMap TaskR.cells) ∧ nX ≤ cX ∧ nX ≤ 1048576 := by
      by_cases hc1 : ct = 1
      · rw [if_pos hc1, show nt - 1 = 0 by omega] at ht; exact ⟨_, _, _, .inl ⟨hc1, rfl, rfl, rfl⟩, ht, by omega, by omega⟩
      · rw [if_neg hc1, Option.map_some, addr_succ ad 2] at ht; exact ⟨_, _, _, .inr ⟨hc1, rfl, rfl, rfl⟩, ht, by omega, by omega⟩
    have Hmm : Hid (∀ (w' : World) (u : Nat), Below w.heap.size w w' → u < 1024 → Calls Try.prog 27 #[.slice A n c, .slice AX nX cX, .int .i64 u] w' fun e w2 => e = .returned (.int .i64 (mfill (csH l) tl u : Nat)) ∧ Below w'.heap.size w' w2) :=
      Lib.hid (fun w' u hb hu => ih (h.below hb hB) (by have := hb.size; omega) hn Hsk.out (hRX.below hb hB'') (by have := hb.size; omega) hcX hnX Htk.out hu)
    have Hcs : Hid ((csH l t).length = (canTo l t n).length) := Lib.hid (by rw [csH_len, HL.out])
    have hte : (TaskR.at_ (t :: tl) 0) = t := rfl
    rw [hte] at e0 e1 e2
    have Hl := Lib.hid hl
    have hnt0 : 0 < nt := by omega
    have hdn : decide ((nt : Int) = 0) = false := by simp; omega
    have hct1 : (1 : Int) ≤ (ct : Int) := by omega
    have hnt1 : (1 : Int) ≤ (nt : Int) := by omega
    clear ih ht htk hsk hl hte hRX hcX hnX
    go_enter Try.func27, Try.ntmps27
    rcases hAX with ⟨rfl, rfl, rfl, rfl⟩ | ⟨hc1, rfl, rfl, rfl⟩
    all_goals
      go_wp2_with fail
      go_fit (Hmm.out _ _ (Below.refl _ _) hu)
      rintro e w1 ⟨rfl, b1⟩
      have hs1 := b1.size
      have f0 : w1.cell? ad = some (.string t.Id) := (b1.cell (by omega)).trans e0
      have f1 : w1.cell? ⟨ad.block, ad.off + 1, none⟩ = some (.int .i64 t.Skills) := (b1.cell (by simp only []; omega)).trans e1
      have f2 : w1.cell? ⟨ad.block, ad.off + 2, none⟩ = some (.int .i64 t.Until) := (b1.cell (by simp only []; omega)).trans e2
      clear e0 e1 e2
      go_wp2_with fail
      refine (helpersFor_any (h.below b1 hB) (by omega) (by omega) Hsk.out ht0).mono ?_
      rintro e w2 ⟨A2, c2, rfl, o2, b2⟩
      have b3 := b1.trans (b2.mono hs1)
      have hs3 := b3.size
      have hr2 := o2.reads
      clear o2 b1 b2 f0 f1 f2
      go_wp2_with fail
      rw [show (⟨t.Id, t.Skills, t.Until⟩ : TaskR) = t from rfl] at *
      go_loopg [7, 9, 24] (canTo l t n).length (fun gk vm vk vi wr => ∃ i : Nat, i ≤ (canTo l t n).length ∧ gk + i = (canTo l t n).length ∧ vi = .int .i64 i ∧
        vm = .int .i64 (((csH l t).take i).foldl (stepM (mfill (csH l) tl) (tl.length + 1) used) (mfill (csH l) tl used) : Nat) ∧ Below w.heap.size w wr ∧ Below w2.heap.size w2 wr)
      case atStart => exact ⟨0, by omega, rfl, rfl, rfl, b3, Below.refl _ _⟩
      case round =>
        clear b3
        obtain ⟨i, hi, hgk, rfl, rfl, b3, b4⟩ := hrel
        have Hgk := Lib.hid hgk
        have hs4 := b3.size
        have Hst := Lib.hid (foldM_take (mfill (csH l) tl) (tl.length + 1) used (csH l t) i)
        have hM1 := Lib.hid (foldM_le (mfill (csH l) tl) (tl.length + 1) used (fun u => by have := mfill_le (csH l) tl u; omega) ((csH l t).take i) (mfill (csH l) tl used) (by have := mfill_le (csH l) tl used; omega))
        clear hgk
        by_cases hlt : i < (canTo l t n).length
        · obtain ⟨a2, rfl, ha2, hcell⟩ := Ints.at_ (hr2.below b4 (Nat.le_refl _)) hlt
          obtain ⟨k, hk1, hk2, hk3⟩ := canTo_nth l t i (by rw [HL.out]; exact hlt)
          rw [HL.out] at hk1 hk2
          rw [hk1] at hcell
          obtain ⟨M, hM0⟩ : ∃ M, ((csH l t).take i).foldl (stepM (mfill (csH l) tl) (tl.length + 1) used) (mfill (csH l) tl used) = M := ⟨_, rfl⟩
          have Hst2 : Hid (((csH l t).take (i + 1)).foldl (stepM (mfill (csH l) tl) (tl.length + 1) used) (mfill (csH l) tl used) = stepM (mfill (csH l) tl) (tl.length + 1) used M k) := Lib.hid (by
            have := Hst.out (by rw [Hcs.out]; exact hlt) (mfill (csH l) tl used)
            rwa [hk3, hM0] at this)
          have hM1' : M ≤ tl.length + 1 := by have := hM1.out; rwa [hM0] at this
          rw [hM0]
          clear hk3 hk1 hM0 Hst hM1
          have hk0 : (0 : Int) ≤ (k : Int) := by omega
          have hk10 : (k : Int) ≤ 64 := by omega
          have hlen := canTo_len l t n
          have Hor := Lib.hid (or_lt hu (show k < 10 by omega))
          cases hb : used.testBit k with
          | true =>
            have hbb : (bits BinOp.and IntKind.i64 ((used : Int) / 2 ^ k) 1 == 0) = false := by rw [and_bit hu, hb]; rfl
            have Hs : Hid (((csH l t).take (i + 1)).foldl (stepM (mfill (csH l) tl) (tl.length + 1) used) (mfill (csH l) tl used) = M) := Lib.hid (by rw [Hst2.out, stepM, hb]; simp)
            clear hb
            go_wp2_with fail
            have hgk := Hgk.out
            go_roundg (gk - 1)
            case rel => exact ⟨i + 1, by omega, by omega, by go_num, by rw [Hs.out], b3, b4⟩
            case measure => omega
          | false =>
            have hbb : (bits BinOp.and IntKind.i64 ((used : Int) / 2 ^ k) 1 == 0) = true := by rw [and_bit hu, hb]; rfl
            by_cases hM : M < tl.length + 1
            · have Hs : Hid (((csH l t).take (i + 1)).foldl (stepM (mfill (csH l) tl) (tl.length + 1) used) (mfill (csH l) tl used) = max M (1 + mfill (csH l) tl (used ||| 1 <<< k))) := Lib.hid (by rw [Hst2.out, stepM, hb]; simp [hM])
              have hM2 : decide (M < nt) = true := by have := Hl.out; simp; omega
              clear hb
              go_wp2_with (go_at_call 48; refine (size_Task_any _ _ _ _ (by omega)).mono ?_; rintro e w' ⟨rfl, rfl⟩)
              have hq := or_bit hu (show k < 10 by omega)
              have hX := Lib.hid (mfill_le (csH l) tl (used ||| 1 <<< k))
              have hX2 : mfill (csH l) tl (used ||| 1 <<< k) ≤ 1048576 := by have := hX.out; have := Hl.out; omega
              have hw : IntKind.i64.wrap ((1 : Int) + ((mfill (csH l) tl (used ||| 1 <<< k) : Nat) : Int)) = (1 : Int) + ((mfill (csH l) tl (used ||| 1 <<< k) : Nat) : Int) := IntWalk.i64_in _ (by omega)
              go_region_held3 (fun _ => True) (trivial)
                ((first | (go_at_call 27; refine (Hmm.out _ _ b3.drew Hor.out).mono ?_; rintro e w5 ⟨rfl, b5⟩)))
              generalize mfill (csH l) tl (used ||| 1 <<< k) = X at *
              clear hq
              have b6 := b3.drew.trans (b5.mono hs4)
              have b7 := b4.drew.trans (b5.mono b4.size)
              go_wp2_with fail
              all_goals
                have hgk := Hgk.out
                go_roundg (gk - 1)
                case rel => exact ⟨i + 1, by omega, by omega, by go_num, by rw [Hs.out]; exact int_eq (by omega), b6, b7⟩
                case measure => omega
            · have Hs : Hid (((csH l t).take (i + 1)).foldl (stepM (mfill (csH l) tl) (tl.length + 1) used) (mfill (csH l) tl used) = M) := Lib.hid (by rw [Hst2.out, stepM, hb]; simp [hM])
              have hM2 : decide (M < nt) = false := by have := Hl.out; simp; omega
              clear hb
              go_wp2_with (go_at_call 48; refine (size_Task_any _ _ _ _ (by omega)).mono ?_; rintro e w' ⟨rfl, rfl⟩)
              have hgk := Hgk.out
              go_roundg (gk - 1)
              case rel => exact ⟨i + 1, by omega, by omega, by go_num, by rw [Hs.out], b3, b4⟩
              case measure => omega
        · have hie : i = (canTo l t n).length := by omega
          have Hfin : Hid (((csH l t).take i).foldl (stepM (mfill (csH l) tl) (tl.length + 1) used) (mfill (csH l) tl used) = mfill (csH l) (t :: tl) used) := Lib.hid (by rw [List.take_of_length_le (by rw [Hcs.out]; omega), mfill])
          clear hie
          go_wp2_with fail
          go_ret
          exact ⟨ret_int (by rw [← Hfin.out]), b3⟩
end Go.Proofs.Ytcacmiafmanniaa
