/- Helpers: KeyHelpers: contracts of both sides. -/
import Derived.Test.YtcacmiafmanniaaMd
import Derived.Test.YtcacmiafmanniaaMe
namespace Go.Proofs.Ytcacmiafmanniaa
open Go.RowKit
set_option maxRecDepth 100000
set_option linter.unusedVariables false
set_option linter.unusedSimpArgs false

/-! ### plain: without one of them -/
/-- The places of all but k. -/
def butIdx (n k : Nat) : List Nat := (List.range (n - 1)).map fun j => if j < k then j else j + 1
theorem butIdx_len (n k : Nat) : (butIdx n k).length = n - 1 := by simp [butIdx]
theorem butIdx_get {n k j : Nat} (hj : j < n - 1) : (butIdx n k).getD j 0 = if j < k then j else j + 1 := by
  simp [butIdx, List.getD, hj]
theorem butIdx_nodup (n k : Nat) : (butIdx n k).Nodup := by
  refine nodup_map_on List.nodup_range fun a _ b _ e => ?_
  split at e <;> split at e <;> omega
theorem butIdx_mem {n k x : Nat} (hk : k < n) : x ∈ butIdx n k ↔ x < n ∧ x ≠ k := by
  simp only [butIdx, List.mem_map, List.mem_range]
  constructor
  · rintro ⟨j, hj, rfl⟩
    split <;> omega
  · rintro ⟨h1, h2⟩
    by_cases hx : x < k
    · exact ⟨x, by omega, by rw [if_pos hx]⟩
    · exact ⟨x - 1, by omega, by rw [if_neg (by omega)]; omega⟩
theorem but_at {l : List HelperR} {k j : Nat} (hk : k < l.length) : HelperR.at_ (l.take k ++ l.drop (k + 1)) j = HelperR.at_ l (if j < k then j else j + 1) := by
  simp only [HelperR.at_, List.getD]
  congr 1
  by_cases hj : j < k
  · rw [if_pos hj, List.getElem?_append_left (by rw [List.length_take]; omega), List.getElem?_take, if_pos hj]
  · rw [if_neg hj, List.getElem?_append_right (by rw [List.length_take]; omega), List.length_take, List.getElem?_drop]
    congr 1; omega
theorem but_len {l : List HelperR} {k : Nat} (hk : k < l.length) : (l.take k ++ l.drop (k + 1)).length = l.length - 1 := by
  rw [List.length_append, List.length_take, List.length_drop]; omega
theorem but_eq {l : List HelperR} {tl : List TaskR} {k : Nat} (hk : k < l.length) : (kuhn (cB l tl) l.length (seen0 l.length (k : Int)) tl.length).2 = mfill (csH (l.take k ++ l.drop (k + 1))) tl 0 := by
  have h1 := kuhn_opt (cB l tl) l.length (seen0 l.length (k : Int)) (seen0_len _ _) tl.length
  have h2 := mfill_opt (csH (l.take k ++ l.drop (k + 1))) tl 0
  have h3 : Opt (cB (l.take k ++ l.drop (k + 1)) tl) (fun j => j < (butIdx l.length k).length) tl.length (mfill (csH (l.take k ++ l.drop (k + 1))) tl 0) := by
    refine h2.congr fun j i hi => ?_
    rw [cOf_iff _ tl j i hi, but_len hk, butIdx_len]
    simp
  have h4 := h3.places (c := cB l tl) (butIdx_nodup _ _) (fun j i hj hi => by
    rw [butIdx_len] at hj
    unfold cB
    rw [but_at hk, butIdx_get hj])
  refine h1.same (h4.congr fun j i hi => ?_)
  rw [butIdx_mem hk, seen0_pos hk]
  constructor
  · rintro ⟨⟨a, b⟩, d⟩; exact ⟨⟨a, a, b⟩, d⟩
  · rintro ⟨⟨a, _, b⟩, d⟩; exact ⟨⟨a, b⟩, d⟩
/-- The names of those of the first k without whom fewer tasks can be filled. -/
def keysTo (l : List HelperR) (tl : List TaskR) : Nat → List ByteArray
  | 0 => []
  | k + 1 => keysTo l tl k ++ (if mfill (csH (l.take k ++ l.drop (k + 1))) tl 0 < mfill (csH l) tl 0 then [(HelperR.at_ l k).Id] else [])
theorem keysTo_succ (l : List HelperR) (tl : List TaskR) (k : Nat) : keysTo l tl (k + 1) = keysTo l tl k ++ (if mfill (csH (l.take k ++ l.drop (k + 1))) tl 0 < mfill (csH l) tl 0 then [(HelperR.at_ l k).Id] else []) := rfl
theorem keysTo_le (l : List HelperR) (tl : List TaskR) : ∀ k, (keysTo l tl k).length ≤ k := by
  intro k
  induction k with
  | zero => simp [keysTo]
  | succ k ih => rw [keysTo_succ, List.length_append]; split <;> simp <;> omega
def rKeyHelpers (l : List HelperR) (tl : List TaskR) : List ByteArray × Int := if helperBAll l && taskBAll tl then (keysTo l tl l.length, 0) else ([], 1)
theorem skills_but {l : List HelperR} {k : Nat} (hk : k < l.length) (h : ∀ j, j < l.length → 0 ≤ (HelperR.at_ l j).Skills ∧ (HelperR.at_ l j).Skills ≤ 7) :
    ∀ j, j < (l.take k ++ l.drop (k + 1)).length → 0 ≤ (HelperR.at_ (l.take k ++ l.drop (k + 1)) j).Skills ∧ (HelperR.at_ (l.take k ++ l.drop (k + 1)) j).Skills ≤ 7 := by
  intro j hj
  rw [but_len hk] at hj
  rw [but_at hk]
  refine h _ ?_
  split <;> omega
theorem info_stringM : (Try.prog.info? 9).map (fun i => (i.zero, i.size, i.bytes)) = some (some (.string ByteArray.empty), 1, 16) := by kernel_rfl

set_option maxHeartbeats 2000000 in
theorem implKeyHelpers_any {A A'' : Option Addr} {n c B nt ct B'' : Nat} {l : List HelperR} {tl : List TaskR} {w : World} (h : Reads w B 3 A n (l.flatMap HelperR.cells)) (hB : B ≤ w.heap.size) (hc : n ≤ c) (hn : n ≤ 1048576) (hF : ∀ x ∈ l, x.Id.size ≤ 1048576)
    (ht : Reads w B'' 3 A'' nt (tl.flatMap TaskR.cells)) (hB'' : B'' ≤ w.heap.size) (hct : nt ≤ ct) (hnt : nt ≤ 1048576) (hFt : ∀ x ∈ tl, x.Id.size ≤ 1048576) :
    Calls Try.prog 10 #[.slice A n c, .slice A'' nt ct] w fun e w' => ∃ A2 n2 c2, e = .returned (.tuple #[.slice A2 n2 c2, .int .i64 (rKeyHelpers l tl).2]) ∧ n2 ≤ 1048576 ∧
      Own w' w.heap.size 9 1 A2 n2 c2 ((rKeyHelpers l tl).1.map Value.string) ∧ Below w.heap.size w w' := by
  have HL := Lib.hid (HelperR.count h)
  obtain ⟨i0, hi, hz0, hz1, hz2⟩ := info_parts info_stringM
  cases hv : helperBAll l && taskBAll tl with
  | false =>
    have Hh : Hid (helpI l tl = 1) := Lib.hid (by unfold helpI; rw [hv]; rfl)
    have Hr : Hid (rKeyHelpers l tl = ([], 1)) := Lib.hid (by unfold rKeyHelpers; rw [hv]; rfl)
    clear hv
    go_enter Try.func10, Try.ntmps10
    go_wp2_with fail
    refine (helped_any h hB hc hn hF ht hB'' hct hnt hFt).mono ?_
    rintro e w1 ⟨rfl, b1⟩
    rw [Hh.out]
    go_wp2_with fail
    go_ret2
    exact ⟨none, 0, 0, by rw [Hr.out]; rfl, by omega, by rw [Hr.out]; exact Own.nil _ _ _ _, b1⟩
  | true =>
    have Hh : Hid (helpI l tl = 0) := Lib.hid (by unfold helpI; rw [hv]; rfl)
    have Hr : Hid (rKeyHelpers l tl = (keysTo l tl n, 0)) := Lib.hid (by unfold rKeyHelpers; rw [hv, HL.out]; rfl)
    rw [Bool.and_eq_true] at hv
    have hn10 : n ≤ 10 := by have := helperB_len hv.1; rw [HL.out] at this; exact this
    have Hs := Lib.hid (helpers_at hv.1)
    have Ht := Lib.hid (tasks_at hv.2)
    clear hv
    go_enter Try.func10, Try.ntmps10
    go_wp2_with fail
    refine (helped_any h hB hc hn hF ht hB'' hct hnt hFt).mono ?_
    rintro e w1 ⟨rfl, b1⟩
    rw [Hh.out]
    have hs1 := b1.size
    go_wp2_with fail
    refine (mostFilled_any tl (used := 0) (h.below b1 hB) (by omega) hn10 Hs.out (ht.below b1 hB'') (by omega) hct hnt Ht.out (by omega)).mono ?_
    rintro e w2 ⟨rfl, b2⟩
    have b3 := b1.trans (b2.mono hs1)
    have Hb3 := Lib.hid b3
    clear b1 b2 hs1 b3
    go_wp2_with fail
    go_loopg [8, 9, 10, 22] n (fun gk vo v9 v10 vi wr => ∃ (k : Nat) (A2 : Option Addr) (c2 : Nat), k ≤ n ∧ gk + k = n ∧ vi = .int .i64 k ∧ vo = .slice A2 (keysTo l tl k).length c2 ∧
        Own wr w.heap.size 9 1 A2 (keysTo l tl k).length c2 ((keysTo l tl k).map Value.string) ∧ Below w.heap.size w wr)
    case atStart => exact ⟨0, none, 0, by omega, by omega, rfl, rfl, Own.nil _ _ _ _, Hb3.out⟩
    case round =>
      clear Hb3
      obtain ⟨k, A2, c2, hk, hgk, rfl, rfl, ho, hb⟩ := hrel
      have Hgk := Lib.hid hgk
      have hbs := hb.size
      have Hs0 := Lib.hid (keysTo_succ l tl k)
      have hlen := keysTo_le l tl k
      clear hgk
      by_cases hlt : k < n
      · obtain ⟨ad, rfl, hbl, p0, p1, p2⟩ := HelperR.rd (h.below hb hB) hlt
        have hk0 : (0 : Int) ≤ (k : Int) := by omega
        have hk1 : (k : Int) < (n : Int) := by omega
        have hqk : IntKind.i64.wrap ((k : Int) + 1) = (k : Int) + 1 := IntWalk.i64_in _ (by omega)
        have HX : Hid (∀ x, x = HelperR.at_ l k → keysTo l tl (k + 1) = keysTo l tl k ++ (if mfill (csH (l.take k ++ l.drop (k + 1))) tl 0 < mfill (csH l) tl 0 then [x.Id] else [])) := Lib.hid (fun x hx => by rw [Hs0.out, hx])
        have Hskb := Lib.hid (skills_but (l := l) (k := k) (by rw [HL.out]; exact hlt) Hs.out)
        have HXX := Lib.hid (HX.out _ rfl)
        clear HX Hs0
        generalize HelperR.at_ l k = X at *
        have pre := hb.alloc hbs (.cells #[.string X.Id, .int .i64 X.Skills, .int .i64 X.Minutes] 35)
        have hX0 : (wr.alloc (.cells #[.string X.Id, .int .i64 X.Skills, .int .i64 X.Minutes] 35)).cell? ⟨wr.heap.size, 0, none⟩ = some (.string X.Id) := by simp
        have hszw : wr.heap.size < (wr.alloc (.cells #[.string X.Id, .int .i64 X.Skills, .int .i64 X.Minutes] 35)).heap.size := by simp
        have ho1 := ho.alloc (.cells #[.string X.Id, .int .i64 X.Skills, .int .i64 X.Minutes] 35)
        clear ho
        go_wp2_with fail
        generalize hW1 : wr.alloc (.cells #[.string X.Id, .int .i64 X.Skills, .int .i64 X.Minutes] 35) = W1 at *
        clear hW1
        have hps := pre.size
        refine (without_any (h.below pre hB) (by omega) hc hn hlt).mono ?_
        rintro e w3 ⟨A3, c3, rfl, o3, b3⟩
        have hb3 := pre.trans (b3.mono hps)
        have hs3 := hb3.size
        have ho3 := ho1.below b3
        have hX3 := (b3.cell (p := ⟨wr.heap.size, 0, none⟩) hszw).trans hX0
        have hszw3 : wr.heap.size < w3.heap.size := Nat.lt_of_lt_of_le hszw b3.size
        have hr3 := o3.reads
        clear b3 ho1 hX0 hszw o3 hps
        go_wp2_with fail
        refine (mostFilled_any tl (used := 0) hr3 (Nat.le_refl _) (by omega) Hskb.out (ht.below hb3 hB'') (by omega) hct hnt Ht.out (by omega)).mono ?_
        rintro e w4 ⟨rfl, b4⟩
        have hb4 := hb3.trans (b4.mono hs3)
        have hs4 := hb4.size
        have ho4 := ho3.below b4
        have hX4 := (b4.cell (p := ⟨wr.heap.size, 0, none⟩) hszw3).trans hX3
        clear b4 ho3 hX3 hr3 hb3 hs3
        by_cases hlt2 : mfill (csH (l.take k ++ l.drop (k + 1))) tl 0 < mfill (csH l) tl 0
        · have hd : decide (mfill (csH (l.take k ++ l.drop (k + 1))) tl 0 < mfill (csH l) tl 0) = true := decide_eq_true hlt2
          have HS : Hid (keysTo l tl (k + 1) = keysTo l tl k ++ [X.Id]) := Lib.hid (by rw [HXX.out, if_pos hlt2])
          have Hl : Hid ((keysTo l tl (k + 1)).length = (keysTo l tl k).length + 1) := Lib.hid (by rw [HS.out, List.length_append]; rfl)
          clear HXX hlt2
          go_wp2_with (at_builtin; refine wpList_app rfl _ _ 38 rfl 9 i0 _ 1 16 Try.underlying38 hi hz0 hz1 hz2 rfl (by omega) (by omega) w.heap.size _ _ _ _ rfl (ho4.alloc _) ⟨w4.heap.size, 0, none⟩ 1 1 [.string X.Id] rfl rfl (cell_one_new _ _ _) (by simp [Value.oneCell']) (by omega) (by simp; omega) ?_)
          intro A5 c5 w5 ho5 hgA hbA hat
          have ho6 : Own w5 w.heap.size 9 1 A5 (keysTo l tl (k + 1)).length c5 ((keysTo l tl (k + 1)).map Value.string) := by rw [HS.out, List.map_append, List.length_append]; exact ho5
          have hb6 : Below w.heap.size w w5 := (hb4.alloc hs4 _).trans hbA
          clear ho5 hgA hbA hat ho4
          go_wp2_with fail
          have hgk := Hgk.out
          go_roundg (gk - 1)
          case rel => exact ⟨k + 1, A5, c5, by omega, by omega, by go_num, by rw [Hl.out], ho6, hb6⟩
          case measure => omega
        · have hd : decide (mfill (csH (l.take k ++ l.drop (k + 1))) tl 0 < mfill (csH l) tl 0) = false := decide_eq_false hlt2
          have HS : Hid (keysTo l tl (k + 1) = keysTo l tl k) := Lib.hid (by rw [HXX.out, if_neg hlt2, List.append_nil])
          clear HXX hlt2
          go_wp2_with fail
          have hgk := Hgk.out
          go_roundg (gk - 1)
          case rel => exact ⟨k + 1, A2, c2, by omega, by omega, by go_num, by rw [HS.out], by rw [HS.out]; exact ho4, hb4⟩
          case measure => omega
      · have hke : n = k := by omega
        have Hke := Lib.hid hke
        have hd : ¬ (k : Int) < (n : Int) := by omega
        clear hke
        go_wp2_with fail
        go_ret2
        exact ⟨A2, _, c2, by rw [Hr.out]; rfl, by omega, by rw [Hr.out, Hke.out]; exact ho, hb⟩
end Go.Proofs.Ytcacmiafmanniaa
