/- Reading of lists and of inspections: both readings of a text say the same; in plain words. -/
import Derived.Test.YtickepianllblaaGreatDoorUs
import Derived.Test.YtickepianllblaaGreatDoorTh
import Derived.Lib.CutLaws
namespace Go.Proofs.YtickepianllblaaGreatDoor
open Go.RowKit
set_option maxRecDepth 100000
set_option linter.unusedVariables false
set_option linter.unusedSimpArgs false

def inV (z : Int) : Bool := inB z (-1000000000000) 1000000000000
def okL (zs : List Int) : Bool := decide (zs.length ≤ 64) && zs.all inV
def itoas (zs : List Int) : List UInt8 := Lib.join (zs.map Lib.itoa) [44]
/-- What the text of a list that is not empty is. -/
def rListL (zs : List Int) : List UInt8 := if okL zs then itoas zs else []
/-- What reading of a list's text says. -/
def rReadL (l : List UInt8) : List Int × Bool := if l = [45] then ([], true) else match numsL (sp 44 l) with
  | some ns => if okL ns then (ns, true) else ([], false)
  | none => ([], false)
theorem okL_true {zs : List Int} : okL zs = true ↔ zs.length ≤ 64 ∧ ∀ z ∈ zs, -1000000000000 ≤ z ∧ z ≤ 1000000000000 := by
  unfold okL inV
  simp only [Bool.and_eq_true, decide_eq_true_eq, List.all_eq_true, inB_true]
theorem dec_len10 : ∀ (m u : Nat), u < 10 ^ m → (Lib.decDigits u).length ≤ m + 1 := by
  intro m
  induction m with
  | zero => intro u hu; rw [Lib.decDigits_one (by simp at hu; omega)]; simp
  | succ m ih =>
    intro u hu
    by_cases h10 : u < 10
    · rw [Lib.decDigits_one h10]; simp
    · rw [dec_step u h10, List.length_append]
      have := ih (u / 10) (by rw [Nat.pow_succ] at hu; omega)
      simp; omega
theorem dec_short12 {u : Nat} (h : u ≤ 1000000000000) : (Lib.decDigits u).length ≤ 18 := by
  have := dec_len10 13 u (by omega)
  omega
theorem itoa_nn {v : Int} (h : 0 ≤ v) : Lib.itoa v = Lib.decDigits v.toNat := by
  unfold Lib.itoa
  rw [if_neg (by omega)]
theorem itoa_mn {v : Int} (h : v < 0) : Lib.itoa v = 45 :: Lib.decDigits v.natAbs := by
  have e : v = -((v.natAbs : Nat) : Int) := by omega
  have := Lib.itoa_neg v.natAbs (by omega)
  rw [← e] at this
  exact this
theorem dec_mem {u : Nat} {b : UInt8} (h : b ∈ Lib.decDigits u) : 48 ≤ b.toNat ∧ b.toNat ≤ 57 := by
  have := (dec_facts u).1
  rw [List.all_eq_true] at this
  have := this _ h
  simpa [digB] using this
theorem itoa_mem {v : Int} {b : UInt8} (h : b ∈ Lib.itoa v) : b = 45 ∨ (48 ≤ b.toNat ∧ b.toNat ≤ 57) := by
  by_cases hv : 0 ≤ v
  · rw [itoa_nn hv] at h; exact .inr (dec_mem h)
  · rw [itoa_mn (by omega)] at h
    rcases List.mem_cons.1 h with h | h
    · exact .inl h
    · exact .inr (dec_mem h)
theorem itoa_trim {v : Int} (h : -1000000000000 ≤ v ∧ v ≤ 1000000000000) : (Lib.trimPrefix (Lib.itoa v) [45]).length ≤ 18 := by
  by_cases hv : 0 ≤ v
  · rw [itoa_nn hv]
    have hs := dec_short12 (u := v.toNat) (by omega)
    rcases head_cases (Lib.decDigits v.toNat) with e | ⟨r, e⟩ | ⟨c, r, e, hc⟩
    · exact absurd e (dec_facts _).2.1
    · have : (45 : UInt8) ∈ Lib.decDigits v.toNat := by rw [e]; simp
      have := dec_mem this
      simp at this
    · rw [e] at hs ⊢; rw [trim_pos r hc]; exact hs
  · rw [itoa_mn (by omega), trim_neg]
    exact dec_short12 (by omega)
theorem numL_itoa {v : Int} (h : -1000000000000 ≤ v ∧ v ≤ 1000000000000) : numL (Lib.itoa v) = some v := num_of_itoa rfl (itoa_trim h)
theorem itoa_free {v : Int} {c : UInt8} (h1 : c ≠ 45) (h2 : c.toNat < 48) : c ∉ Lib.itoa v := by
  intro h
  rcases itoa_mem h with h | h
  · exact h1 h
  · omega
theorem joinTail_free {c : UInt8} (hc : c ≠ 44) {ws : List (List UInt8)} (h : ∀ w ∈ ws, c ∉ w) : c ∉ Lib.joinTail [44] ws := by
  unfold Lib.joinTail
  intro hm
  rw [List.mem_flatten] at hm
  obtain ⟨x, hx, hcx⟩ := hm
  obtain ⟨v, hv, rfl⟩ := List.mem_map.1 hx
  rcases List.mem_append.1 hcx with h1 | h1
  · exact hc (by simpa using h1)
  · exact h v hv h1
theorem itoas_free {c : UInt8} {zs : List Int} (h1 : c ≠ 45) (h2 : c.toNat < 48) (h3 : c ≠ 44) : c ∉ itoas zs := by
  unfold itoas
  cases zs with
  | nil => simp [Lib.join]
  | cons z zs =>
    rw [List.map_cons, Lib.join_cons]
    intro h
    rcases List.mem_append.1 h with h | h
    · exact itoa_free h1 h2 h
    · refine joinTail_free h3 (fun w hw => ?_) h
      obtain ⟨v, _, rfl⟩ := List.mem_map.1 hw
      exact itoa_free h1 h2
theorem nums_itoas : ∀ (zs : List Int), (∀ z ∈ zs, -1000000000000 ≤ z ∧ z ≤ 1000000000000) → numsL (zs.map Lib.itoa) = some zs := by
  intro zs
  induction zs with
  | nil => intro _; rfl
  | cons z zs ih =>
    intro h
    rw [List.map_cons, numsL, numL_itoa (h z (by simp)), ih (fun y hy => h y (by simp [hy]))]
    rfl
theorem sp_itoas {zs : List Int} (h : zs ≠ []) : sp 44 (itoas zs) = zs.map Lib.itoa := by
  unfold itoas
  refine sp_join 44 _ (by simpa using h) (fun w hw => ?_)
  obtain ⟨v, _, rfl⟩ := List.mem_map.1 hw
  exact itoa_free (by decide) (by decide)
theorem itoas_no_minus {zs : List Int} (h : zs ≠ []) (hv : ∀ z ∈ zs, -1000000000000 ≤ z ∧ z ≤ 1000000000000) : itoas zs ≠ [45] := by
  intro e
  have h1 := nums_itoas zs hv
  rw [← sp_itoas h, e] at h1
  have : numsL (sp 44 [45]) = none := by decide
  rw [this] at h1
  cases h1
/-- Reading of what was written. -/
theorem readL_itoas {zs : List Int} (h : zs ≠ []) (hk : okL zs = true) : rReadL (itoas zs) = (zs, true) := by
  have hv := (okL_true.1 hk).2
  unfold rReadL
  rw [if_neg (itoas_no_minus h hv), sp_itoas h, nums_itoas zs hv]
  simp only
  rw [if_pos hk]
theorem nums_rdN : ∀ (ws : List (List UInt8)) (ns : List Int), numsL ws = some ns → ws.map rdN = ns ∧ ws = ns.map Lib.itoa := by
  intro ws
  induction ws with
  | nil => intro ns h; rw [numsL] at h; injection h with h; subst h; exact ⟨rfl, rfl⟩
  | cons w ws ih =>
    intro ns h
    obtain ⟨n, r, rfl, h1, h2⟩ := numsL_cons h
    obtain ⟨i1, i2⟩ := ih r h2
    refine ⟨?_, ?_⟩
    · rw [List.map_cons, i1]
      unfold rdN numR
      rw [h1]
    · rw [List.map_cons, ← i2, itoa_num h1]
/-- The program's reading says the same. -/
theorem readL_same {l : List UInt8} (h : l ≠ [45]) : rReadL l = if rListL ((sp 44 l).map rdN) = l then ((sp 44 l).map rdN, true) else ([], false) := by
  unfold rReadL
  rw [if_neg h]
  cases hn : numsL (sp 44 l) with
  | some ns =>
    obtain ⟨h1, h2⟩ := nums_rdN _ _ hn
    rw [h1]
    simp only
    unfold rListL
    cases hk : okL ns with
    | true =>
      rw [if_pos rfl, if_pos rfl, if_pos]
      unfold itoas
      rw [← h2]; exact join_sp 44 l
    | false =>
      have hl : l ≠ [] := by
        rintro rfl
        have : numsL (sp 44 []) = none := by decide
        rw [this] at hn
        cases hn
      simp only [Bool.false_eq_true, if_false]
      rw [if_neg (fun e => hl e.symm)]
  | none =>
    simp only
    unfold rListL
    have hne : (sp 44 l).map rdN ≠ [] := by simpa using sp_ne 44 l
    cases hk : okL ((sp 44 l).map rdN) with
    | true =>
      rw [if_pos rfl, if_neg]
      intro e
      have h1 := nums_itoas _ (okL_true.1 hk).2
      rw [← sp_itoas hne, e, hn] at h1
      cases h1
    | false =>
      have hl : l ≠ [] := by
        rintro rfl
        have : okL ((sp 44 []).map rdN) = true := by decide
        rw [this] at hk
        cases hk
      simp only [Bool.false_eq_true, if_false]
      rw [if_neg (fun e => hl e.symm)]
theorem readL_len (l : List UInt8) : (rReadL l).1.length ≤ 64 := by
  unfold rReadL
  split
  · simp
  · split
    · split
      · rename_i h; exact (okL_true.1 h).1
      · simp
    · simp
theorem readL_of_four {l : List UInt8} (h : (rReadL l).1 ≠ []) : itoas (rReadL l).1 = l ∧ okL (rReadL l).1 = true := by
  unfold rReadL at h ⊢
  by_cases h1 : l = [45]
  · rw [if_pos h1] at h; exact absurd rfl h
  · rw [if_neg h1] at h ⊢
    cases hn : numsL (sp 44 l) with
    | none => rw [hn] at h; exact absurd rfl h
    | some ns =>
      rw [hn] at h
      simp only at h ⊢
      by_cases hk : okL ns = true
      · rw [if_pos hk]
        obtain ⟨_, h2⟩ := nums_rdN _ _ hn
        refine ⟨?_, hk⟩
        unfold itoas
        rw [← h2]; exact join_sp 44 l
      · rw [if_neg hk] at h; exact absurd rfl h

theorem bad_word {l w : List UInt8} {a b : List (List UInt8)} (h1 : l ≠ [45]) (h : sp 44 l = a ++ w :: b) (hw : numL w = none ∨ ∃ z, numL w = some z ∧ inV z = false) : rReadL l = ([], false) := by
  unfold rReadL
  rw [if_neg h1]
  rcases hw with hw | ⟨z, hz, hi⟩
  · rw [h, numsL_bad a b w hw]
  · cases hn : numsL (sp 44 l) with
    | none => rfl
    | some ns =>
      simp only
      rw [if_neg]
      intro hk
      obtain ⟨h2, _⟩ := nums_rdN _ _ hn
      have hm : z ∈ ns := by
        rw [← h2, h]
        refine List.mem_map.2 ⟨w, by simp, ?_⟩
        unfold rdN numR
        rw [hz]
      have h3 := (okL_true.1 hk).2 z hm
      unfold inV at hi
      rw [inB_true.2 h3] at hi
      cases hi
theorem long_words {l : List UInt8} (h1 : l ≠ [45]) (h : 64 < (sp 44 l).length) : rReadL l = ([], false) := by
  unfold rReadL
  rw [if_neg h1]
  cases hn : numsL (sp 44 l) with
  | none => rfl
  | some ns =>
    simp only
    rw [if_neg]
    intro hk
    obtain ⟨h2, _⟩ := nums_rdN _ _ hn
    have h3 := (okL_true.1 hk).1
    rw [← h2, List.length_map] at h3
    omega
theorem all_words {l : List UInt8} {xs : List Int} (h1 : l ≠ [45]) (h : numsL (sp 44 l) = some xs) (hk : okL xs = true) : rReadL l = (xs, true) := by
  unfold rReadL
  rw [if_neg h1, h]
  simp only
  rw [if_pos hk]
theorem readL_minus : rReadL [45] = ([], true) := rfl
def iA (z : Int) : ByteArray := ⟨(Lib.itoa z).toArray⟩
def iS (zs : List Int) (k : Nat) : List Value := ((zs.take k).map iA).map Value.string
theorem iA_join (zs : List Int) : (zs.map iA).map (·.data.toList) = zs.map Lib.itoa := by
  rw [List.map_map]
  rfl
theorem itoa_len {z : Int} (h : -1000000000000 ≤ z ∧ z ≤ 1000000000000) : (Lib.itoa z).length ≤ 20 := by
  by_cases hv : 0 ≤ z
  · rw [itoa_nn hv]
    have := dec_short12 (u := z.toNat) (by omega)
    omega
  · rw [itoa_mn (by omega), List.length_cons]
    have := dec_short12 (u := z.natAbs) (by omega)
    omega
theorem lens_le : ∀ (zs : List Int), (∀ z ∈ zs, -1000000000000 ≤ z ∧ z ≤ 1000000000000) → Lib.lens (zs.map Lib.itoa) ≤ 20 * zs.length := by
  intro zs
  induction zs with
  | nil => intro _; simp [Lib.lens]
  | cons z zs ih =>
    intro h
    have h1 := itoa_len (h z (by simp))
    have h2 := ih (fun y hy => h y (by simp [hy]))
    simp only [Lib.lens, List.map_cons, List.sum_cons, List.length_cons] at h2 ⊢
    omega
theorem itoas_len {zs : List Int} (h : okL zs = true) : (itoas zs).length ≤ 2000 := by
  obtain ⟨h1, h2⟩ := okL_true.1 h
  unfold itoas
  cases zs with
  | nil => simp [Lib.join]
  | cons z zs =>
    have h3 := lens_le (z :: zs) h2
    rw [List.map_cons, Lib.join_length]
    rw [List.map_cons] at h3
    simp only [List.length_cons, List.length_map, List.length_nil] at h1 h3 ⊢
    omega

/-! ### inspections -/
def rCk (a : List UInt8) : List Int → CheckR
  | [x, y, u, v] => ⟨⟨a.toArray⟩, x, y, u, v⟩
  | _ => CheckR.zero
/-- What the reference's reading says, of the words at the spaces. -/
def rRC (l : List UInt8) : CheckR × Bool := match sp 32 l with
  | [a, b] => if (rReadL b).1.length = 4 then (if checkB (rCk a (rReadL b).1) then (rCk a (rReadL b).1, true) else (CheckR.zero, false)) else (CheckR.zero, false)
  | _ => (CheckR.zero, false)
/-- What the program's says, of what stands ahead of the first space and behind it. -/
def iRC (l : List UInt8) : CheckR × Bool :=
  if (rReadL (Lib.cut l [32]).2.1).1.length = 4 then
    (if (rCheckText (rCk (Lib.cut l [32]).1 (rReadL (Lib.cut l [32]).2.1).1)).data.toList = l then (rCk (Lib.cut l [32]).1 (rReadL (Lib.cut l [32]).2.1).1, true) else (CheckR.zero, false))
  else (CheckR.zero, false)
theorem four_of {zs : List Int} (h : zs.length = 4) : ∃ x y u v, zs = [x, y, u, v] := by
  match zs, h with
  | [x, y, u, v], _ => exact ⟨x, y, u, v, rfl⟩
theorem app_data (a b : ByteArray) : (a ++ b).data.toList = a.data.toList ++ b.data.toList := by simp [ByteArray.data_append]
theorem jn_ckN {r : CheckR} (h : checkB r = true) : (jn 44 (ckN r)).data.toList = itoas [r.EveryDays, r.EveryRides, r.LastDay, r.LastRide] := by
  obtain ⟨_, a, b, c, d, h1, h2, h3, h4, _⟩ := checkB_parts h
  show ((Lib.join ((ckN r).map Lib.decDigits) [44]).toArray).toList = _
  unfold itoas ckN
  rw [h1, h2, h3, h4]
  simp only [List.map_cons, List.map_nil, Int.toNat_natCast]
  rw [itoa_nn (v := (a : Int)) (by omega), itoa_nn (v := (b : Int)) (by omega), itoa_nn (v := (c : Int)) (by omega), itoa_nn (v := (d : Int)) (by omega)]
  simp only [Int.toNat_natCast]
theorem text_data {r : CheckR} (h : checkB r = true) : (rCheckText r).data.toList = r.Id.data.toList ++ 32 :: itoas [r.EveryDays, r.EveryRides, r.LastDay, r.LastRide] := by
  unfold rCheckText
  rw [if_pos h, app_data, app_data, jn_ckN h]
  simp
theorem cut_none {l : List UInt8} (h : (32 : UInt8) ∉ l) : Lib.cut l [32] = (l, [], false) := by
  unfold Lib.cut
  rw [Lib.index_one, indexByte_no 32 l h, if_neg (by omega)]
theorem cut_hit (a b : List UInt8) (h : (32 : UInt8) ∉ a) : Lib.cut (a ++ 32 :: b) [32] = (a, b, true) := by
  unfold Lib.cut
  rw [Lib.index_one, indexByte_first 32 a b h, if_pos (by omega)]
  simp
theorem readL_nil : rReadL [] = ([], false) := by decide
theorem iRC_eq (l : List UInt8) : iRC l = rRC l := by
  unfold iRC rRC
  by_cases hm : (32 : UInt8) ∈ l
  · obtain ⟨a, b, rfl, hn⟩ := first_at 32 l hm
    rw [cut_hit a b hn, sp_hit 32 a b hn]
    simp only
    by_cases hb : (32 : UInt8) ∈ b
    · have h4 : (rReadL b).1.length ≠ 4 := by
        intro h4
        have hne : (rReadL b).1 ≠ [] := by intro e; rw [e] at h4; simp at h4
        have h5 := (readL_of_four hne).1
        rw [← h5] at hb
        exact itoas_free (by decide) (by decide) (by decide) hb
      rw [if_neg h4]
      obtain ⟨c, d, rfl, hn2⟩ := first_at 32 b hb
      rw [sp_hit 32 c d hn2]
      cases hs : sp 32 d with
      | nil => exact absurd hs (sp_ne 32 d)
      | cons _ _ => rfl
    · rw [sp_none 32 b hb]
      simp only
      by_cases h4 : (rReadL b).1.length = 4
      · rw [if_pos h4, if_pos h4]
        have hne : (rReadL b).1 ≠ [] := by intro e; rw [e] at h4; simp at h4
        obtain ⟨h5, _⟩ := readL_of_four hne
        obtain ⟨x, y, u, v, he⟩ := four_of h4
        rw [he] at h5 ⊢
        cases hk : checkB (rCk a [x, y, u, v]) with
        | true =>
          rw [if_pos rfl, if_pos]
          rw [text_data hk, ← h5]
          rfl
        | false =>
          have hr : rCheckText (rCk a [x, y, u, v]) = ⟨#[]⟩ := by unfold rCheckText; rw [hk]; rfl
          simp only [Bool.false_eq_true, if_false]
          rw [hr, if_neg (by simp)]
      · rw [if_neg h4, if_neg h4]
  · rw [cut_none hm, sp_none 32 l hm]
    simp only
    rw [readL_nil]
    rfl
theorem name_free {s : ByteArray} (h : nameB s = true) : (32 : UInt8) ∉ s.data.toList := by
  intro hm
  obtain ⟨k, hk, he⟩ := List.mem_iff_getElem.1 hm
  simp only [nameB, Bool.and_eq_true] at h
  have hl : s.data.toList.length = s.size := bytes_len s
  have h1 := allTo_true.1 h.1 k (by omega)
  have h2 : byt s k = 32 := by
    rw [byt_at (by omega), List.getD_eq_getElem?_getD, List.getElem?_eq_getElem hk, Option.getD_some, he]; rfl
  simp only [letB, smallB, digitB, h2] at h1
  simp [inB] at h1
/-- What was written is read back. -/
theorem rRC_text {r : CheckR} (h : checkB r = true) : rRC (rCheckText r).data.toList = (r, true) := by
  have hn : nameB r.Id = true := by simp only [checkB, Bool.and_eq_true] at h; exact h.1
  obtain ⟨_, a, b, c, d, h1, h2, h3, h4, ha, hb, hc, hd⟩ := checkB_parts h
  have hok : okL [r.EveryDays, r.EveryRides, r.LastDay, r.LastRide] = true := okL_true.2 ⟨by simp, by
    intro z hz
    simp only [List.mem_cons, List.not_mem_nil, or_false] at hz
    rcases hz with rfl | rfl | rfl | rfl <;> omega⟩
  rw [text_data h]
  unfold rRC
  rw [sp_hit 32 _ _ (name_free hn), sp_none 32 _ (itoas_free (by decide) (by decide) (by decide))]
  simp only
  rw [readL_itoas (by simp) hok]
  have e : rCk r.Id.data.toList [r.EveryDays, r.EveryRides, r.LastDay, r.LastRide] = r := rfl
  simp only [e, h, List.length_cons, List.length_nil, if_true]
end Go.Proofs.YtickepianllblaaGreatDoor
