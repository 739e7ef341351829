/- Reading of texts: the program's reading of a number says the same as the reference's. -/
import Derived.Test.YtickepianllblaaGreatDoorUc
import Derived.Test.YtickepianllblaaGreatDoorTb
import Derived.Lib.ParseIntBTie
import Derived.Lib.AtoiTie
import Derived.Lib.ItoaMem
import Derived.Lib.AtoiErrMem
namespace Go.Proofs.YtickepianllblaaGreatDoor
open Go.RowKit
set_option maxRecDepth 100000
set_option linter.unusedVariables false
set_option linter.unusedSimpArgs false

/-- What the library's parsing says of a row of bytes, at 64 bits. -/
def pI (l : List UInt8) : Option Int := match Lib.parseIntB 64 l with | .ok v => some v | _ => none
theorem decFrom_val : ∀ (l : List UInt8) (acc : Nat), l.all digB = true → Lib.decFrom acc l = some (l.foldl (fun n b => 10 * n + (b.toNat - 48)) acc) := by
  intro l
  induction l with
  | nil => intro acc _; rfl
  | cons b l ih =>
    intro acc h
    rw [List.all_cons, Bool.and_eq_true] at h
    have hb : 48 ≤ b.toNat ∧ b.toNat ≤ 57 := by have := h.1; unfold digB at this; simpa using this
    rw [Lib.decFrom]
    unfold Lib.digitVal
    rw [if_pos hb]
    simp only
    rw [ih _ h.2, List.foldl_cons]
    congr 2
    omega
theorem decNat_val {ds : List UInt8} (h0 : ds ≠ []) (h : ds.all digB = true) : Lib.decNat ds = some (valL ds) := by
  unfold Lib.decNat
  rw [if_neg (by simp [h0]), decFrom_val ds 0 h]; rfl
theorem head_cases (l : List UInt8) : l = [] ∨ (∃ r, l = 45 :: r) ∨ ∃ c r, l = c :: r ∧ c ≠ 45 := by
  cases l with
  | nil => exact .inl rfl
  | cons c r =>
    by_cases hc : c = 45
    · subst hc; exact .inr (.inl ⟨r, rfl⟩)
    · exact .inr (.inr ⟨c, r, rfl, hc⟩)
theorem u8_ne {a b : UInt8} (h : a ≠ b) : a.toNat ≠ b.toNat := fun e => h (UInt8.toNat_inj.1 e)
theorem numL_neg (r : List UInt8) : numL (45 :: r) = (numD (45 :: r) r).map (fun n : Nat => -(n : Int)) := by
  unfold numL; rw [if_pos (by rfl)]; rfl
theorem numL_pos {c : UInt8} (r : List UInt8) (h : c ≠ 45) : numL (c :: r) = (numD (c :: r) (c :: r)).map (fun n : Nat => (n : Int)) := by
  unfold numL; rw [if_neg (by simpa using h)]
theorem trim_neg (r : List UInt8) : Lib.trimPrefix (45 :: r) [45] = r := by
  unfold Lib.trimPrefix Lib.hasPrefix; simp
theorem trim_pos {c : UInt8} (r : List UInt8) (h : c ≠ 45) : Lib.trimPrefix (c :: r) [45] = c :: r := by
  unfold Lib.trimPrefix Lib.hasPrefix
  rw [if_neg]
  simp [List.isPrefixOf, Ne.symm h]
theorem pI_num {l : List UInt8} {v : Int} (h : numL l = some v) : pI l = some v := by
  unfold pI
  rw [Lib.parseIntB_64]
  rcases head_cases l with rfl | ⟨r, rfl⟩ | ⟨c, r, rfl, hc⟩
  · unfold numL numD at h; simp at h
  · rw [numL_neg] at h
    obtain ⟨n, hn, rfl⟩ := Option.map_eq_some_iff.1 h
    obtain ⟨h1, h2, _, h4, rfl⟩ := numD_some hn
    rw [Lib.atoiAll_minus, Lib.signed_short h2, decNat_val h1 h4]; rfl
  · rw [numL_pos r hc] at h
    obtain ⟨n, hn, rfl⟩ := Option.map_eq_some_iff.1 h
    obtain ⟨h1, h2, _, h4, rfl⟩ := numD_some hn
    have hd : digB c = true := by rw [List.all_cons, Bool.and_eq_true] at h4; exact h4.1
    have hd2 : 48 ≤ c.toNat ∧ c.toNat ≤ 57 := by unfold digB at hd; simpa using hd
    rw [Lib.atoiAll_plain c r (by omega) (by omega), Lib.signless_short h2, decNat_val h1 h4]; rfl
theorem itoa_num {l : List UInt8} {v : Int} (h : numL l = some v) : Lib.itoa v = l := by
  by_cases hv : 0 ≤ v
  · have := numL_nat h hv
    unfold Lib.itoa
    rw [if_neg (by omega), ← this]
  · rcases head_cases l with rfl | ⟨r, rfl⟩ | ⟨c, r, rfl, hc⟩
    · unfold numL numD at h; simp at h
    · rw [numL_neg] at h
      obtain ⟨n, hn, rfl⟩ := Option.map_eq_some_iff.1 h
      obtain ⟨h1, h2, h3, h4, rfl⟩ := numD_some hn
      rw [Lib.itoa_neg _ (by omega), dec_of_val _ r rfl h1 h4 (.inl (fun e => by
        have h5 := h3 e
        have h6 := List.length_pos_iff.2 h1
        rw [List.length_cons] at h5
        omega))]
    · rw [numL_pos r hc] at h
      obtain ⟨n, hn, rfl⟩ := Option.map_eq_some_iff.1 h
      omega
theorem len_num {l : List UInt8} {v : Int} (h : numL l = some v) : 1 ≤ (Lib.trimPrefix l [45]).length ∧ (Lib.trimPrefix l [45]).length ≤ 18 := by
  rcases head_cases l with rfl | ⟨r, rfl⟩ | ⟨c, r, rfl, hc⟩
  · unfold numL numD at h; simp at h
  · rw [numL_neg] at h
    obtain ⟨n, hn, rfl⟩ := Option.map_eq_some_iff.1 h
    obtain ⟨h1, h2, _⟩ := numD_some hn
    rw [trim_neg]
    exact ⟨List.length_pos_iff.2 h1, h2⟩
  · rw [numL_pos r hc] at h
    obtain ⟨n, hn, rfl⟩ := Option.map_eq_some_iff.1 h
    obtain ⟨h1, h2, _⟩ := numD_some hn
    rw [trim_pos r hc]
    exact ⟨List.length_pos_iff.2 h1, h2⟩
theorem num_of_itoa {v : Int} {l : List UInt8} (h : Lib.itoa v = l) (h1 : (Lib.trimPrefix l [45]).length ≤ 18) : numL l = some v := by
  by_cases hv : 0 ≤ v
  · have e : l = Lib.decDigits v.toNat := by rw [← h]; unfold Lib.itoa; rw [if_neg (by omega)]
    have hd := (dec_facts v.toNat).1
    rw [← e] at hd
    have hne := (dec_facts v.toNat).2.1
    rw [← e] at hne
    have ht : Lib.trimPrefix l [45] = l := by
      rcases head_cases l with rfl | ⟨r, rfl⟩ | ⟨c, r, rfl, hc⟩
      · exact absurd rfl hne
      · rw [List.all_cons, Bool.and_eq_true] at hd; have := hd.1; simp [digB] at this
      · exact trim_pos r hc
    rw [ht, e] at h1
    rw [e, numL_dec h1]
    congr 1
    omega
  · have e : l = 45 :: Lib.decDigits v.natAbs := by rw [← h]; unfold Lib.itoa; rw [if_pos (by omega)]
    subst e
    rw [trim_neg] at h1
    obtain ⟨d1, d2, d3, d4⟩ := dec_facts v.natAbs
    rw [numL_neg]
    unfold numD
    rw [if_neg, if_pos d1, d3]
    · simp; omega
    · intro hc
      rcases hc with hc | hc | ⟨hc, _⟩
      · exact d2 hc
      · omega
      · exact d4 (by omega) hc
/-- The program's reading of a number, over bytes. -/
def rdD (l : List UInt8) : Int × Bool :=
  if 1 ≤ (Lib.trimPrefix l [45]).length ∧ (Lib.trimPrefix l [45]).length ≤ 18 then
    match pI l with
    | some v => if Lib.itoa v = l then (v, true) else (0, false)
    | none => (0, false)
  else (0, false)
theorem rdD_numR (l : List UInt8) : rdD l = numR l := by
  unfold numR
  cases h : numL l with
  | some v =>
    unfold rdD
    rw [if_pos (len_num h), pI_num h]
    simp only
    rw [if_pos (itoa_num h)]
  | none =>
    unfold rdD
    by_cases hl : 1 ≤ (Lib.trimPrefix l [45]).length ∧ (Lib.trimPrefix l [45]).length ≤ 18
    · rw [if_pos hl]
      cases hp : pI l with
      | none => rfl
      | some v =>
        simp only
        rw [if_neg (fun e => by rw [num_of_itoa e hl.2] at h; cases h)]
    · rw [if_neg hl]

/-! The program's. -/
def Ifc (v : Value) : Prop := v = .nilIface ∨ ∃ te pe, v = .iface te pe
/-- What of the package-level variables the reading of a text needs. -/
def TabR (w : World) : Prop := TabOk w ∧ (∃ m, w.cell? ⟨0, 0, none⟩ = some (.int .i64 m)) ∧ (∃ v, w.cell? ⟨2, 0, none⟩ = some v ∧ Ifc v) ∧ ∃ v, w.cell? ⟨3, 0, none⟩ = some v ∧ Ifc v
theorem cell_later {w w' : World} (hb : Below w.heap.size w w') {a : Addr} {v : Value} (hc : w.cell? a = some v) : w'.cell? a = some v := (hb.cell (World.block_lt_of_cell? w a hc)).trans hc
theorem TabR.below {w w' : World} (h : TabR w) (hb : Below w.heap.size w w') : TabR w' := by
  obtain ⟨h1, ⟨m, h2⟩, ⟨v, h3, h4⟩, u, h5, h6⟩ := h
  exact ⟨h1.below hb, ⟨m, cell_later hb h2⟩, ⟨v, cell_later hb h3, h4⟩, u, cell_later hb h5, h6⟩
theorem parseInt_any {s : ByteArray} {w : World} (hs : s.size ≤ 1048576) (ht : TabR w) :
    Calls Tryz.prog 75 #[.string s, .int .i64 10, .int .i64 64] w fun e w' => (∃ n er, e = .returned (.tuple #[.int .i64 n, er]) ∧ ((er = .nilIface ∧ pI s.data.toList = some n ∧ -9223372036854775808 ≤ n ∧ n ≤ 9223372036854775807) ∨ ((∃ te pe, er = .iface te pe) ∧ pI s.data.toList = none))) ∧ Below w.heap.size w w' := by
  obtain ⟨h1, _, ⟨v, h3, h4⟩, u, h5, h6⟩ := ht
  cases h : Lib.parseIntB 64 s.data.toList
  · rename_i n
    refine (Tryz.strconv_ParseInt_10_at64_ok s (by omega) n h w).mono ?_
    rintro e w' ⟨rfl, hw⟩
    have hb := Lib.parseIntB_bounds h
    refine ⟨⟨n, _, rfl, .inl ⟨rfl, by unfold pI; rw [h], by omega, by omega⟩⟩, ?_⟩
    rcases hw with rfl | ⟨t, rfl⟩
    · exact Below.refl _ _
    · exact Lib.bytesWorld_below _ _ _
  · refine (Tryz.strconv_ParseInt_10_at64_syntax s (by omega) (h.trans rfl) v w h3 h4).mono ?_
    rintro e w' ⟨N, rfl, -, -, hb⟩
    exact ⟨⟨_, _, rfl, .inr ⟨⟨_, _, rfl⟩, by unfold pI; rw [h]⟩⟩, hb⟩
  · refine (Tryz.strconv_ParseInt_10_at64_range s (by omega) h u w h5 h6).mono ?_
    rintro e w' ⟨N, rfl, -, -, hb⟩
    exact ⟨⟨_, _, rfl, .inr ⟨⟨_, _, rfl⟩, by unfold pI; rw [h]⟩⟩, hb⟩
theorem decimal_int {n : Int} {w : World} (h0 : -9223372036854775808 ≤ n) (h1 : n ≤ 9223372036854775807) (ht : TabOk w) :
    Calls Tryz.prog 54 #[.int .i64 n] w fun e w' => e = .returned (.string ⟨(Lib.itoa n).toArray⟩) ∧ Below w.heap.size w w' := by
  have Hc : Hid (Calls Tryz.prog 66 #[.int .i64 n, .int .i64 10] w fun e w' => e = .returned (.string ⟨(Lib.itoa n).toArray⟩) ∧ Below w.heap.size w w') := Lib.hid
    ((Tryz.strconv_FormatInt_10 n h0 h1 w ht).mono fun e w' ⟨he, k, os, hw⟩ =>
      ⟨he, by rw [hw]; exact Lib.below_grow _ _ (Nat.le_refl _) k os⟩)
  go_enter Tryz.func54, Tryz.ntmps54
  go_wp2_with fail
  refine Hc.out.mono ?_
  rintro e w' ⟨rfl, b⟩
  go_wp2_with fail
  go_ret
  exact ⟨rfl, b⟩
theorem bytes_eq {l : List UInt8} {s : ByteArray} : (⟨l.toArray⟩ : ByteArray) = s ↔ l = s.data.toList := by
  constructor
  · rintro rfl; rfl
  · rintro rfl; rfl
theorem ba_inj {t s : ByteArray} (e : t.toList = s.toList) : t = s := by
  rw [ByteArray.toList_eq, ByteArray.toList_eq] at e
  exact bytes_eq.2 e
set_option maxHeartbeats 1000000 in
theorem readDecimal_any {s : ByteArray} {w : World} (hs : s.size ≤ 1048576) (ht : TabR w) :
    Calls Tryz.prog 64 #[.string s] w fun e w' => e = .returned (.tuple #[.int .i64 (numR s.data.toList).1, .bool (numR s.data.toList).2]) ∧ Below w.heap.size w w' := by
  have HR : Hid (rdD s.data.toList = numR s.data.toList) := Lib.hid (rdD_numR _)
  rw [← HR.out]
  clear HR
  have Ht := Lib.hid ht
  clear ht
  have Hs := Lib.hid hs
  have HT : Hid ((⟨(Lib.trimPrefix s.data.toList (⟨#[45]⟩ : ByteArray).data.toList).toArray⟩ : ByteArray).size = (Lib.trimPrefix s.data.toList [45]).length) := Lib.hid (by
    show (Lib.trimPrefix s.data.toList [45]).toArray.size = _
    rw [List.size_toArray])
  have HD : Hid (∀ d : ByteArray, d.size = (Lib.trimPrefix s.data.toList [45]).length → rdD s.data.toList = if 1 ≤ d.size ∧ d.size ≤ 18 then (match pI s.data.toList with | some v => if Lib.itoa v = s.data.toList then (v, true) else (0, false) | none => (0, false)) else (0, false)) := Lib.hid (fun d hd => by rw [hd]; rfl)
  generalize hR : rdD s.data.toList = R at *
  have Hp := Lib.hid (parseInt_any (w := w) hs Ht.out)
  have Htr := Lib.hid (Tryz.strings_TrimPrefix s ⟨#[45]⟩ w)
  generalize (⟨(Lib.trimPrefix s.data.toList (⟨#[45]⟩ : ByteArray).data.toList).toArray⟩ : ByteArray) = d at *
  have HD2 := Lib.hid (HD.out d HT.out)
  clear HD HT hR
  go_enter Tryz.func64, Tryz.ntmps64
  go_wp2_with fail
  refine Htr.out.mono ?_
  rintro e w' ⟨rfl, rfl⟩
  by_cases c1 : d.size < 1
  · have HR : Hid (R = (0, false)) := Lib.hid (by rw [HD2.out, if_neg (by omega)])
    go_wp2_with fail
    exact bodyPost_ret (v := .tuple #[.int .i64 0, .bool false]) (by simp [results, Tryz.results64, go_sem]) rfl ⟨by rw [HR.out], Below.refl _ _⟩
  by_cases c2 : 18 < d.size
  · have HR : Hid (R = (0, false)) := Lib.hid (by rw [HD2.out, if_neg (by omega)])
    go_wp2_with fail
    exact bodyPost_ret (v := .tuple #[.int .i64 0, .bool false]) (by simp [results, Tryz.results64, go_sem]) rfl ⟨by rw [HR.out], Below.refl _ _⟩
  have HD3 : Hid (R = (match pI s.data.toList with | some v => if Lib.itoa v = s.data.toList then (v, true) else (0, false) | none => (0, false))) := Lib.hid (by rw [HD2.out, if_pos (by omega)])
  clear HD2
  go_wp2_with fail
  refine Hp.out.mono ?_
  rintro e w1 ⟨⟨n, er, rfl, hor⟩, b1⟩
  rcases hor with ⟨rfl, hp, hn0, hn1⟩ | ⟨⟨te, pe, rfl⟩, hp⟩
  · have Hdec := Lib.hid (decimal_int (n := n) (w := w1) hn0 hn1 (Ht.out.1.below b1))
    rw [hp] at HD3
    by_cases hit : Lib.itoa n = s.data.toList
    · have HS : Hid ((⟨(Lib.itoa n).toArray⟩ : ByteArray) = s) := Lib.hid (bytes_eq.2 hit)
      have HR : Hid (R = (n, true)) := Lib.hid (by rw [HD3.out]; simp only; rw [if_pos hit])
      rw [HS.out] at Hdec
      clear hp HD3 hit HS
      go_wp2_with fail
      refine Hdec.out.mono ?_
      rintro e w2 ⟨rfl, b2⟩
      go_wp2_with fail
      exact bodyPost_ret (v := .tuple #[.int .i64 n, .bool true]) (by simp [results, Tryz.results64, go_sem]) rfl ⟨by rw [HR.out], b1.trans (b2.mono b1.size)⟩
    · have hS : (⟨(Lib.itoa n).toArray⟩ : ByteArray) ≠ s := fun e => hit (bytes_eq.1 e)
      have HR : Hid (R = (0, false)) := Lib.hid (by rw [HD3.out]; simp only; rw [if_neg hit])
      generalize (⟨(Lib.itoa n).toArray⟩ : ByteArray) = t at *
      clear hp HD3 hit
      go_wp2_with fail
      refine Hdec.out.mono ?_
      rintro e w2 ⟨rfl, b2⟩
      have hb : (t.toList == s.toList) = false := by rw [beq_eq_false_iff_ne]; exact fun e => hS (ba_inj e)
      go_wp2_with fail
      exact bodyPost_ret (v := .tuple #[.int .i64 0, .bool false]) (by simp [results, Tryz.results64, go_sem]) rfl ⟨by rw [HR.out], b1.trans (b2.mono b1.size)⟩
  · have HR : Hid (R = (0, false)) := Lib.hid (by rw [HD3.out, hp])
    clear hp HD3
    go_wp2_with fail
    exact bodyPost_ret (v := .tuple #[.int .i64 0, .bool false]) (by simp [results, Tryz.results64, go_sem]) rfl ⟨by rw [HR.out], b1⟩
end Go.Proofs.YtickepianllblaaGreatDoor
