/- Reading of texts: the reference's reading of a number. -/
import Derived.Test.YtickepianllblaaDoorUb
import Derived.Test.YtickepianllblaaDoorM
namespace Go.Proofs.YtickepianllblaaDoor
open Go.RowKit
set_option maxRecDepth 100000
set_option linter.unusedVariables false
set_option linter.unusedSimpArgs false

def numR (l : List UInt8) : Int × Bool := match numL l with | some n => (n, true) | none => (0, false)
theorem bytes_len (s : ByteArray) : s.data.toList.length = s.size := Array.length_toList
theorem byt_at {s : ByteArray} {k : Nat} (h : k < s.size) : byt s k = ((s.data.toList.getD k 0).toNat : Int) := rfl
theorem drop_head {l : List UInt8} {k : Nat} (h : k < l.length) : (l.drop k).head? = some (l.getD k 0) := by
  rw [List.head?_drop, List.getElem?_eq_getElem h]; simp [List.getD, List.getElem?_eq_getElem h]
theorem u8_eq {a : UInt8} {m : Nat} (hm : m < 256) : a = UInt8.ofNat m ↔ (a.toNat : Int) = (m : Int) := by
  constructor
  · rintro rfl; rw [UInt8.toNat_ofNat']; omega
  · intro h
    apply UInt8.toNat_inj.1
    rw [UInt8.toNat_ofNat']
    omega
/-- The sign's place, and what stands behind it. -/
theorem numL_drop {l : List UInt8} {a : Nat} (ha : (a = 1 ∧ l.head? = some 45) ∨ (a = 0 ∧ l.head? ≠ some 45)) :
    numL l = (numD l (l.drop a)).map (fun n : Nat => if a = 1 then -(n : Int) else (n : Int)) := by
  unfold numL
  rcases ha with ⟨rfl, h⟩ | ⟨rfl, h⟩
  · rw [if_pos h]; cases l <;> rfl
  · rw [if_neg h, List.drop_zero]; rfl
theorem valL_take {ds : List UInt8} {k : Nat} (h : k < ds.length) : valL (ds.take (k + 1)) = 10 * valL (ds.take k) + ((ds.getD k 0).toNat - 48) := by
  rw [List.take_add_one, List.getElem?_eq_getElem h]
  simp only [Option.toList_some]
  rw [valL_snoc]
  simp [List.getD, List.getElem?_eq_getElem h]
theorem valL_lt : ∀ (n : Nat) (l : List UInt8), l.length = n → l.all digB = true → valL l < 10 ^ n := by
  intro n
  induction n with
  | zero => intro l h _; rw [List.length_eq_zero_iff.1 h]; simp [valL]
  | succ n ih =>
    intro l h hd
    obtain ⟨a, b, rfl⟩ := snoc_of l (fun e => by rw [e] at h; simp at h)
    rw [List.all_append, Bool.and_eq_true] at hd
    have hb : digB b = true := by simpa using hd.2
    unfold digB at hb
    simp only [Bool.and_eq_true, decide_eq_true_eq] at hb
    have := ih a (by simpa using h) hd.1
    rw [valL_snoc, Nat.pow_succ]
    omega
theorem digB_iff (b : UInt8) : digB b = digitB (b.toNat : Int) := by
  unfold digB digitB inB
  congr 1 <;> (rw [decide_eq_decide]; omega)
theorem digitN_any (c : Int) (w : World) : Calls Tryd.prog 21 #[.int .u8 c] w fun e w' => e = .returned (.bool (digitB c)) ∧ w = w' := by
  have Hs : Hid (digitB c = (decide (48 ≤ c) && decide (c ≤ 57))) := Lib.hid rfl
  cases x1 : decide ((48 : Int) ≤ c) <;> cases x2 : decide (c ≤ 57) <;>
    (go_enter Tryd.func21, Tryd.ntmps21
     go_wp2_with fail
     go_ret
     exact ⟨ret_bool (by rw [Hs.out, x1, x2]; rfl), rfl⟩)
theorem allD_take {ds : List UInt8} {k : Nat} (h : k < ds.length) : (ds.take (k + 1)).all digB = ((ds.take k).all digB && digB (ds.getD k 0)) := by
  rw [List.take_add_one, List.getElem?_eq_getElem h, List.all_append]
  simp [List.getD, List.getElem?_eq_getElem h]
theorem allD_bad {ds : List UInt8} {k : Nat} (h : k < ds.length) (hd : digB (ds.getD k 0) = false) : ds.all digB = false := by
  cases hx : ds.all digB with
  | false => rfl
  | true =>
    rw [List.all_eq_true] at hx
    have := hx (ds.getD k 0) (by simp only [List.getD, List.getElem?_eq_getElem h, Option.getD_some]; exact List.getElem_mem _)
    rw [this] at hd; cases hd
set_option maxHeartbeats 4000000 in
theorem l01Number_any {s : ByteArray} {w : World} (hs : s.size ≤ 1048576) :
    Calls Tryd.prog 12 #[.string s] w fun e w' => e = .returned (.tuple #[.int .i64 (numR s.data.toList).1, .bool (numR s.data.toList).2]) ∧ w = w' := by
  have hlen := bytes_len s
  by_cases h0 : s.size = 0
  · have hse : s = ⟨#[]⟩ := by
      obtain ⟨d⟩ := s
      have : d = #[] := Array.eq_empty_of_size_eq_zero h0
      rw [this]
    subst hse
    go_enter Tryd.func12, Tryd.ntmps12
    go_wp2_with fail
    go_ret2
    exact ⟨rfl, rfl⟩
  have hpos : 0 < s.size := by omega
  have b0 := byt_get s 0 hpos
  have hh : s.data.toList.head? = some (s.data.toList.getD 0 0) := by have := drop_head (l := s.data.toList) (k := 0) (by omega); simpa using this
  obtain ⟨a, ha⟩ : ∃ a : Nat, (a = 1 ∧ byt s 0 = 45) ∨ (a = 0 ∧ byt s 0 ≠ 45) := by
    by_cases h : byt s 0 = 45
    · exact ⟨1, .inl ⟨rfl, h⟩⟩
    · exact ⟨0, .inr ⟨rfl, h⟩⟩
  have h45 : (a = 1 ∧ s.data.toList.head? = some 45) ∨ (a = 0 ∧ s.data.toList.head? ≠ some 45) := by
    rw [hh]
    rcases ha with ⟨h1, h2⟩ | ⟨h1, h2⟩
    · exact .inl ⟨h1, by rw [Option.some.injEq]; exact (u8_eq (m := 45) (by omega)).2 h2⟩
    · exact .inr ⟨h1, fun e => h2 (by rw [Option.some.injEq] at e; exact (u8_eq (m := 45) (by omega)).1 e)⟩
  have HN := Lib.hid (numL_drop h45)
  have q0 : (s[0].toNat : Int) = byt s 0 := b0
  clear h45 hh b0
  go_enter Tryd.func12, Tryd.ntmps12
  rcases ha with ⟨rfl, hb⟩ | ⟨rfl, hb⟩
  · rw [hb] at q0
    have hds : (s.data.toList.drop 1).length = s.size - 1 := by rw [List.length_drop, hlen]
    have hNo : (s.size = 1 ∨ 18 < s.size - 1 ∨ (byt s 1 = 48 ∧ 1 < s.size)) → numR s.data.toList = (0, false) := by
      intro hc
      have : numD s.data.toList (s.data.toList.drop 1) = none := by
        unfold numD
        rw [if_pos]
        rcases hc with hc | hc | ⟨hc, hc2⟩
        · exact .inl (List.length_eq_zero_iff.1 (by rw [hds]; omega))
        · exact .inr (.inl (by rw [hds]; omega))
        · by_cases hla : 1 < s.size
          · refine .inr (.inr ⟨?_, by rw [hlen]; exact hc2⟩)
            rw [drop_head (by rw [hlen]; exact hla), Option.some.injEq]
            exact (u8_eq (m := 48) (by omega)).2 hc
          · exact .inl (List.length_eq_zero_iff.1 (by rw [hds]; omega))
      unfold numR
      rw [HN.out, this]
      rfl
    have qs : IntKind.i64.wrap ((s.size : Int) - 1) = (s.size : Int) - 1 := IntWalk.i64_in _ (by omega)
    by_cases c1 : s.size = 1
    · have R : Hid (numR s.data.toList = (0, false)) := Lib.hid (hNo (.inl c1))
      have d1 : ((s.size : Int) == 1) = true := by rw [beq_iff_eq]; omega
      clear hNo
      go_wp2_with fail
      all_goals first | (go_ret2; exact ⟨by rw [R.out]; rfl, rfl⟩) | (exfalso; simp_all; done)
    have d1 : ((s.size : Int) == 1) = false := by rw [beq_eq_false_iff_ne]; omega
    have c1' : ¬ (s.size : Int) = 1 := by omega
    by_cases c2 : 18 < s.size - 1
    · have R : Hid (numR s.data.toList = (0, false)) := Lib.hid (hNo (.inr (.inl c2)))
      have d2 : decide (18 < (s.size : Int) - 1) = true := decide_eq_true (by omega)
      have d2' : 18 < (s.size : Int) - 1 := by omega
      have d2'' : 18 < (s.size : Int) := by omega
      clear hNo
      go_wp2_with fail
      all_goals first | (go_ret2; exact ⟨by rw [R.out]; rfl, rfl⟩) | (exfalso; simp_all; done)
    have d2 : decide (18 < (s.size : Int) - 1) = false := decide_eq_false (by omega)
    have d2' : ¬ 18 < (s.size : Int) - 1 := by omega
    have hla : 1 < s.size := by omega
    have qa := byt_get s 1 hla
    by_cases c3 : byt s 1 = 48 ∧ 1 < s.size
    · have R : Hid (numR s.data.toList = (0, false)) := Lib.hid (hNo (.inr (.inr c3)))
      rw [c3.1] at qa
      have d4 : decide (1 < (s.size : Int)) = true := decide_eq_true (by omega)
      have d4' : 1 < (s.size : Int) := by omega
      clear hNo c3
      go_wp2_with fail
      all_goals first | (go_ret2; exact ⟨by rw [R.out]; rfl, rfl⟩) | (exfalso; simp_all; done)
    have hOk : (s.data.toList.drop 1).all digB = true → numR s.data.toList = (-(valL (s.data.toList.drop 1) : Int), true) := by
      intro hd
      have : numD s.data.toList (s.data.toList.drop 1) = some (valL (s.data.toList.drop 1)) := by
        unfold numD
        rw [if_neg, if_pos hd]
        intro hc
        rcases hc with hc | hc | ⟨hc, hc2⟩
        · have := congrArg List.length hc; rw [hds, List.length_nil] at this; omega
        · rw [hds] at hc; omega
        · rw [drop_head (by rw [hlen]; omega), Option.some.injEq] at hc
          exact c3 ⟨(u8_eq (m := 48) (by omega)).1 hc, by rw [hlen] at hc2; exact hc2⟩
      unfold numR
      rw [HN.out, this]
      rfl
    have hBad : (s.data.toList.drop 1).all digB = false → numR s.data.toList = (0, false) := by
      intro hd
      have : numD s.data.toList (s.data.toList.drop 1) = none := by
        unfold numD
        split
        · rfl
        · rw [if_neg (by rw [hd]; simp)]
      unfold numR
      rw [HN.out, this]
      rfl
    have HOk := Lib.hid hOk
    have HBad := Lib.hid hBad
    have Hds := Lib.hid hds
    have x1 : ¬ ((s[1]'hla).toNat : Int) = 48 := by
      rw [qa]
      exact fun h => c3 ⟨h, by omega⟩
    have x2 : (((s[1]'hla).toNat : Int) == 48) = false := by rw [beq_eq_false_iff_ne]; exact x1
    clear hNo hOk hBad hds c3 qa
    have hsz : s.size ≤ 19 := by omega
    all_goals
      go_wp2_with fail
      go_loopg [5, 6] (s.size - 1) (fun gk vn vi wr => ∃ k : Nat, k ≤ s.size - 1 ∧ gk + k = s.size - 1 ∧ vi = .int .i64 ((1 + k : Nat) : Int) ∧ vn = .int .i64 (valL ((s.data.toList.drop 1).take k) : Nat) ∧ Hid (((s.data.toList.drop 1).take k).all digB = true) ∧ w = wr)
      case atStart => exact ⟨0, by omega, by omega, rfl, by simp [valL], Lib.hid (by simp), rfl⟩
      case round =>
        obtain ⟨k, hk, hgk, rfl, rfl, HA, rfl⟩ := hrel
        have Hgk := Lib.hid hgk
        clear hgk
        by_cases hlt : k < s.size - 1
        · have hi : 1 + k < s.size := by omega
          have hkl : k < (s.data.toList.drop 1).length := by rw [Hds.out]; exact hlt
          have hi' : 1 + k < s.size := by omega
          have qk := byt_get s (1 + k) hi'
          have hgd : byt s (1 + k) = (((s.data.toList.drop 1).getD k 0).toNat : Int) := by
            unfold byt
            simp only [List.getD, List.getElem?_drop, Nat.zero_add]
          have hv := valL_take (ds := s.data.toList.drop 1) (k := k) hkl
          have hvb := valL_lt k ((s.data.toList.drop 1).take k) (by rw [List.length_take, Hds.out]; exact Nat.min_eq_left (by omega)) HA.out
          have hp18 : (10 : Nat) ^ k ≤ 10 ^ 17 := Nat.pow_le_pow_right (by omega) (by omega)
          have htk := allD_take hkl
          have hbad := allD_bad hkl
          rw [hgd] at qk
          clear hgd
          generalize (s.data.toList.drop 1).getD k 0 = b at *
          generalize valL ((s.data.toList.drop 1).take k) = V at *
          have hi0 : (0 : Int) ≤ ((1 + k : Nat) : Int) := by omega
          have hi1 : ((1 + k : Nat) : Int) < (s.size : Int) := by omega
          have qi : IntKind.i64.wrap (((1 + k : Nat) : Int) + 1) = ((1 + k : Nat) : Int) + 1 := IntWalk.i64_in _ (by omega)
          cases hd : digB b with
          | false =>
            have R : Hid (numR s.data.toList = (0, false)) := Lib.hid (HBad.out (hbad hd))
            have HD : Hid (digitB (b.toNat : Int) = false) := Lib.hid (by rw [← digB_iff]; exact hd)
            clear htk hbad hv hd hvb hp18
            go_wp2_with fail
            refine (digitN_any _ _).mono ?_
            rintro e w' ⟨rfl, rfl⟩
            rw [HD.out]
            go_wp2_with fail
            go_ret2
            exact ⟨by rw [R.out]; rfl, rfl⟩
          | true =>
            have HD : Hid (digitB (b.toNat : Int) = true) := Lib.hid (by rw [← digB_iff]; exact hd)
            have HA2 : Hid (((s.data.toList.drop 1).take (k + 1)).all digB = true) := Lib.hid (by rw [htk, HA.out, hd]; rfl)
            have HV2 := Lib.hid hv
            have hdb : 48 ≤ b.toNat ∧ b.toNat ≤ 57 := by
              unfold digB at hd
              simpa only [Bool.and_eq_true, decide_eq_true_eq] using hd
            have hV18 : (V : Int) < 100000000000000000 := by
              have : V < 10 ^ 17 := by omega
              omega
            have hb0 : (48 : Int) ≤ (b.toNat : Int) ∧ (b.toNat : Int) ≤ 57 := by omega
            have hbe : ((b.toNat - 48 : Nat) : Int) = (b.toNat : Int) - 48 := by omega
            have p1 : IntKind.u8.wrap ((b.toNat : Int) - 48) = (b.toNat : Int) - 48 := by rw [IntKind.wrap_u8]; omega
            have p2 : IntKind.i64.wrap (10 * (V : Int)) = 10 * (V : Int) := IntWalk.i64_in _ (by omega)
            have p3 : IntKind.i64.wrap (10 * (V : Int) + ((b.toNat : Int) - 48)) = 10 * (V : Int) + ((b.toNat : Int) - 48) := IntWalk.i64_in _ (by omega)
            have p4 : IntKind.i64.wrap ((b.toNat : Int) - 48) = (b.toNat : Int) - 48 := IntWalk.i64_in _ (by omega)
            clear htk hbad hv hd hvb hp18 hdb hV18
            go_wp2_with fail
            refine (digitN_any _ _).mono ?_
            rintro e w' ⟨rfl, rfl⟩
            rw [HD.out]
            go_wp2_with fail
            have hgk := Hgk.out
            go_roundg (gk - 1)
            case rel => exact ⟨k + 1, by omega, by omega, by go_num, by rw [HV2.out, Int.natCast_add, Int.natCast_mul, hbe]; rfl, HA2.out |> Lib.hid, rfl⟩
            case measure => omega
        · have hke : k = s.size - 1 := by omega
          have hall : (s.data.toList.drop 1).all digB = true := by have := HA.out; rwa [List.take_of_length_le (by rw [Hds.out]; omega)] at this
          have R := Lib.hid (HOk.out hall)
          have hvl : valL ((s.data.toList.drop 1).take k) = valL (s.data.toList.drop 1) := by rw [List.take_of_length_le (by rw [Hds.out]; omega)]
          have hb18 := valL_lt _ (s.data.toList.drop 1) Hds.out hall
          have hp18 : (10 : Nat) ^ (s.size - 1) ≤ 10 ^ 18 := Nat.pow_le_pow_right (by omega) (by omega)
          rw [hvl]
          clear hvl hall HOk HBad
          generalize valL (s.data.toList.drop 1) = V at *
          have hV18 : (V : Int) < 1000000000000000000 := by
            have : V < 10 ^ 18 := by omega
            omega
          have hi1 : ¬ ((1 + k : Nat) : Int) < (s.size : Int) := by omega
          have p1 : IntKind.i64.wrap (-(V : Int)) = -(V : Int) := IntWalk.i64_in _ (by omega)
          clear hb18 hp18 hV18
          go_wp2_with fail
          go_ret2
          exact ⟨by rw [R.out]; try rfl, rfl⟩
  · have hq0 : ((s[0].toNat : Int) == 45) = false := by rw [q0, beq_eq_false_iff_ne]; exact hb
    have hq1 : ¬ (s[0].toNat : Int) = 45 := by rw [q0]; exact hb
    have hds : (s.data.toList.drop 0).length = s.size - 0 := by rw [List.length_drop, hlen]
    have hNo : (s.size = 0 ∨ 18 < s.size - 0 ∨ (byt s 0 = 48 ∧ 1 < s.size)) → numR s.data.toList = (0, false) := by
      intro hc
      have : numD s.data.toList (s.data.toList.drop 0) = none := by
        unfold numD
        rw [if_pos]
        rcases hc with hc | hc | ⟨hc, hc2⟩
        · exact .inl (List.length_eq_zero_iff.1 (by rw [hds]; omega))
        · exact .inr (.inl (by rw [hds]; omega))
        · by_cases hla : 0 < s.size
          · refine .inr (.inr ⟨?_, by rw [hlen]; exact hc2⟩)
            rw [drop_head (by rw [hlen]; exact hla), Option.some.injEq]
            exact (u8_eq (m := 48) (by omega)).2 hc
          · exact .inl (List.length_eq_zero_iff.1 (by rw [hds]; omega))
      unfold numR
      rw [HN.out, this]
      rfl
    have qs : IntKind.i64.wrap ((s.size : Int) - 0) = (s.size : Int) - 0 := IntWalk.i64_in _ (by omega)
    have c1 : ¬ s.size = 0 := h0
    have d1 : ((s.size : Int) == 0) = false := by rw [beq_eq_false_iff_ne]; omega
    by_cases c2 : 18 < s.size - 0
    · have R : Hid (numR s.data.toList = (0, false)) := Lib.hid (hNo (.inr (.inl c2)))
      have d2 : decide (18 < (s.size : Int) - 0) = true := decide_eq_true (by omega)
      have d2' : 18 < (s.size : Int) - 0 := by omega
      have d2'' : 18 < (s.size : Int) := by omega
      clear hNo
      go_wp2_with fail
      all_goals first | (go_ret2; exact ⟨by rw [R.out]; rfl, rfl⟩) | (exfalso; simp_all; done)
    have d2 : decide (18 < (s.size : Int) - 0) = false := decide_eq_false (by omega)
    have d2' : ¬ 18 < (s.size : Int) - 0 := by omega
    have hla : 0 < s.size := by omega
    have qa := byt_get s 0 hla
    by_cases c3 : byt s 0 = 48 ∧ 1 < s.size
    · have R : Hid (numR s.data.toList = (0, false)) := Lib.hid (hNo (.inr (.inr c3)))
      rw [c3.1] at qa
      have d4 : decide (1 < (s.size : Int)) = true := decide_eq_true (by omega)
      have d4' : 1 < (s.size : Int) := by omega
      clear hNo c3
      go_wp2_with fail
      all_goals first | (go_ret2; exact ⟨by rw [R.out]; rfl, rfl⟩) | (exfalso; simp_all; done)
    have hOk : (s.data.toList.drop 0).all digB = true → numR s.data.toList = ((valL (s.data.toList.drop 0) : Int), true) := by
      intro hd
      have : numD s.data.toList (s.data.toList.drop 0) = some (valL (s.data.toList.drop 0)) := by
        unfold numD
        rw [if_neg, if_pos hd]
        intro hc
        rcases hc with hc | hc | ⟨hc, hc2⟩
        · have := congrArg List.length hc; rw [hds, List.length_nil] at this; omega
        · rw [hds] at hc; omega
        · rw [drop_head (by rw [hlen]; omega), Option.some.injEq] at hc
          exact c3 ⟨(u8_eq (m := 48) (by omega)).1 hc, by rw [hlen] at hc2; exact hc2⟩
      unfold numR
      rw [HN.out, this]
      rfl
    have hBad : (s.data.toList.drop 0).all digB = false → numR s.data.toList = (0, false) := by
      intro hd
      have : numD s.data.toList (s.data.toList.drop 0) = none := by
        unfold numD
        split
        · rfl
        · rw [if_neg (by rw [hd]; simp)]
      unfold numR
      rw [HN.out, this]
      rfl
    have HOk := Lib.hid hOk
    have HBad := Lib.hid hBad
    have Hds := Lib.hid hds
    have hcs : (((s[0]'hla).toNat : Int) = 48 ∧ s.size = 1) ∨ (¬ ((s[0]'hla).toNat : Int) = 48 ∧ (((s[0]'hla).toNat : Int) == 48) = false) := by
      rw [qa]
      by_cases h : byt s 0 = 48
      · exact .inl ⟨h, by
          rcases Nat.lt_or_ge 1 s.size with h2 | h2
          · exact absurd ⟨h, h2⟩ c3
          · omega⟩
      · exact .inr ⟨h, by rw [beq_eq_false_iff_ne]; exact h⟩
    clear hNo hOk hBad hds c3 qa
    have hsz : s.size ≤ 19 := by omega
    rcases hcs with ⟨x1, x2⟩ | ⟨x1, x2⟩
    all_goals
      go_wp2_with fail
      go_loopg [5, 6] (s.size - 0) (fun gk vn vi wr => ∃ k : Nat, k ≤ s.size - 0 ∧ gk + k = s.size - 0 ∧ vi = .int .i64 ((k : Nat) : Int) ∧ vn = .int .i64 (valL ((s.data.toList.drop 0).take k) : Nat) ∧ Hid (((s.data.toList.drop 0).take k).all digB = true) ∧ w = wr)
      case atStart => exact ⟨0, by omega, by omega, rfl, by simp [valL], Lib.hid (by simp), rfl⟩
      case round =>
        obtain ⟨k, hk, hgk, rfl, rfl, HA, rfl⟩ := hrel
        have Hgk := Lib.hid hgk
        clear hgk
        by_cases hlt : k < s.size - 0
        · have hi : 0 + k < s.size := by omega
          have hkl : k < (s.data.toList.drop 0).length := by rw [Hds.out]; exact hlt
          have hi' : k < s.size := by omega
          have qk := byt_get s (k) hi'
          have hgd : byt s (k) = (((s.data.toList.drop 0).getD k 0).toNat : Int) := by
            unfold byt
            simp only [List.getD, List.getElem?_drop, Nat.zero_add]
          have hv := valL_take (ds := s.data.toList.drop 0) (k := k) hkl
          have hvb := valL_lt k ((s.data.toList.drop 0).take k) (by rw [List.length_take, Hds.out]; exact Nat.min_eq_left (by omega)) HA.out
          have hp18 : (10 : Nat) ^ k ≤ 10 ^ 17 := Nat.pow_le_pow_right (by omega) (by omega)
          have htk := allD_take hkl
          have hbad := allD_bad hkl
          rw [hgd] at qk
          clear hgd
          generalize (s.data.toList.drop 0).getD k 0 = b at *
          generalize valL ((s.data.toList.drop 0).take k) = V at *
          have hi0 : (0 : Int) ≤ ((k : Nat) : Int) := by omega
          have hi1 : ((k : Nat) : Int) < (s.size : Int) := by omega
          have qi : IntKind.i64.wrap (((k : Nat) : Int) + 1) = ((k : Nat) : Int) + 1 := IntWalk.i64_in _ (by omega)
          cases hd : digB b with
          | false =>
            have R : Hid (numR s.data.toList = (0, false)) := Lib.hid (HBad.out (hbad hd))
            have HD : Hid (digitB (b.toNat : Int) = false) := Lib.hid (by rw [← digB_iff]; exact hd)
            clear htk hbad hv hd hvb hp18
            go_wp2_with fail
            refine (digitN_any _ _).mono ?_
            rintro e w' ⟨rfl, rfl⟩
            rw [HD.out]
            go_wp2_with fail
            go_ret2
            exact ⟨by rw [R.out]; rfl, rfl⟩
          | true =>
            have HD : Hid (digitB (b.toNat : Int) = true) := Lib.hid (by rw [← digB_iff]; exact hd)
            have HA2 : Hid (((s.data.toList.drop 0).take (k + 1)).all digB = true) := Lib.hid (by rw [htk, HA.out, hd]; rfl)
            have HV2 := Lib.hid hv
            have hdb : 48 ≤ b.toNat ∧ b.toNat ≤ 57 := by
              unfold digB at hd
              simpa only [Bool.and_eq_true, decide_eq_true_eq] using hd
            have hV18 : (V : Int) < 100000000000000000 := by
              have : V < 10 ^ 17 := by omega
              omega
            have hb0 : (48 : Int) ≤ (b.toNat : Int) ∧ (b.toNat : Int) ≤ 57 := by omega
            have hbe : ((b.toNat - 48 : Nat) : Int) = (b.toNat : Int) - 48 := by omega
            have p1 : IntKind.u8.wrap ((b.toNat : Int) - 48) = (b.toNat : Int) - 48 := by rw [IntKind.wrap_u8]; omega
            have p2 : IntKind.i64.wrap (10 * (V : Int)) = 10 * (V : Int) := IntWalk.i64_in _ (by omega)
            have p3 : IntKind.i64.wrap (10 * (V : Int) + ((b.toNat : Int) - 48)) = 10 * (V : Int) + ((b.toNat : Int) - 48) := IntWalk.i64_in _ (by omega)
            have p4 : IntKind.i64.wrap ((b.toNat : Int) - 48) = (b.toNat : Int) - 48 := IntWalk.i64_in _ (by omega)
            clear htk hbad hv hd hvb hp18 hdb hV18
            go_wp2_with fail
            refine (digitN_any _ _).mono ?_
            rintro e w' ⟨rfl, rfl⟩
            rw [HD.out]
            go_wp2_with fail
            have hgk := Hgk.out
            go_roundg (gk - 1)
            case rel => exact ⟨k + 1, by omega, by omega, by go_num, by rw [HV2.out, Int.natCast_add, Int.natCast_mul, hbe]; rfl, HA2.out |> Lib.hid, rfl⟩
            case measure => omega
        · have hke : k = s.size - 0 := by omega
          have hall : (s.data.toList.drop 0).all digB = true := by have := HA.out; rwa [List.take_of_length_le (by rw [Hds.out]; omega)] at this
          have R := Lib.hid (HOk.out hall)
          have hvl : valL ((s.data.toList.drop 0).take k) = valL (s.data.toList.drop 0) := by rw [List.take_of_length_le (by rw [Hds.out]; omega)]
          have hb18 := valL_lt _ (s.data.toList.drop 0) Hds.out hall
          have hp18 : (10 : Nat) ^ (s.size - 0) ≤ 10 ^ 18 := Nat.pow_le_pow_right (by omega) (by omega)
          rw [hvl]
          clear hvl hall HOk HBad
          generalize valL (s.data.toList.drop 0) = V at *
          have hV18 : (V : Int) < 1000000000000000000 := by
            have : V < 10 ^ 18 := by omega
            omega
          have hi1 : ¬ ((k : Nat) : Int) < (s.size : Int) := by omega
          have p1 : IntKind.i64.wrap (-(V : Int)) = -(V : Int) := IntWalk.i64_in _ (by omega)
          clear hb18 hp18 hV18
          go_wp2_with fail
          go_ret2
          exact ⟨by rw [R.out]; try rfl, rfl⟩
end Go.Proofs.YtickepianllblaaDoor
