/- Evacuation: NeedsLadder: contracts of both sides; slices.DeleteFunc on a slice of the call's own. -/
import Derived.Test.YtcppogfffgdjhaaWk
import Derived.Lib.SliceRun
namespace Go.Proofs.Ytcppogfffgdjhaa
open Go.RowKit
set_option maxRecDepth 100000
set_option linter.unusedVariables false
set_option linter.unusedSimpArgs false

/-! ### own rows: a head of one, cells stored one behind the other -/
theorem Own.head {w : World} {B e n c k : Nat} {A : Option Addr} {xs : List Value} (h : Own w B e 1 A n c xs) (hk : k ≤ n) : Own w B e 1 A k c (xs.take k) := by
  refine ⟨by rw [List.length_take, h.1]; omega, ?_⟩
  rcases h.2 with ⟨hv, h0⟩ | ⟨g, cap, cur, hv, hB, hgg, hnc, hm, hs, ht⟩
  · injection hv with h1 h2 h3
    subst h1; subst h2; subst h3
    exact .inl ⟨by rw [show k = 0 by omega], by omega⟩
  · injection hv with h1 h2 h3
    subst h1; subst h3
    refine .inr ⟨g, _, cur, rfl, hB, hgg, by omega, hm, hs, ?_⟩
    rw [← ht, List.take_take, Nat.min_eq_left (by omega)]
    congr 1; omega
theorem Own.setCells {B e n c g : Nat} : ∀ (vs : List Value) (o : Nat) (w : World) (xs : List Value), Own w B e 1 (some ⟨g, 0, none⟩) n c xs →
    ∃ ys, ys.take o = xs.take o ∧ Own (w.setCells g o vs) B e 1 (some ⟨g, 0, none⟩) n c ys ∧ w.grownBy (w.setCells g o vs) (some g) := by
  intro vs
  induction vs with
  | nil => intro o w xs h; exact ⟨xs, rfl, h, ⟨rfl, rfl, rfl, Nat.le_refl _, fun _ _ _ => rfl⟩⟩
  | cons v vs ih =>
    intro o w xs h
    have h1 := h.stored (j := o) v
    obtain ⟨ys, e, h2, h3⟩ := ih (o + 1) _ _ h1.1
    refine ⟨ys, ?_, h2, h1.2.trans h3⟩
    have := congrArg (List.take o) e
    rw [List.take_take, List.take_take, Nat.min_eq_left (by omega), List.take_set_of_le (by omega)] at this
    exact this

/-! ### slices.DeleteFunc -/
theorem filter_take_succ {zs : List Int} {k : Nat} {f : Int → Bool} (h : k < zs.length) : (zs.take (k + 1)).filter f = (zs.take k).filter f ++ (if f (nth zs k) then [nth zs k] else []) := by
  rw [take_succ_nth h, List.filter_append]
  congr 1
  cases hf : f (nth zs k) <;> simp [List.filter_cons, hf]
theorem filter_take_len {zs : List Int} {f : Int → Bool} (k : Nat) : ((zs.take k).filter f).length ≤ k :=
  Nat.le_trans (List.length_filter_le _ _) (by simp; omega)
theorem findI_cases (f : Int → Bool) (zs : List Int) : (findI f zs = -1 ∧ zs.any f = false) ∨ ∃ i, i < zs.length ∧ findI f zs = (i : Nat) ∧ (zs.take i).any f = false ∧ f (nth zs i) = true := by
  unfold findI
  cases h : zs.findIdx? f with
  | none =>
    rw [List.findIdx?_eq_none_iff] at h
    exact .inl ⟨rfl, by rw [List.any_eq_false]; intro x hx; simp [h x hx]⟩
  | some i =>
    rw [List.findIdx?_eq_some_iff_getElem] at h
    obtain ⟨hi, h1, h2⟩ := h
    refine .inr ⟨i, hi, rfl, ?_, by rw [nth_eq hi]; exact h1⟩
    rw [List.any_eq_false]
    intro x hx
    obtain ⟨j, hj, rfl⟩ := List.mem_take_iff_getElem.1 hx
    exact h2 j (by omega)
theorem filter_none {zs : List Int} {f : Int → Bool} (h : zs.any f = false) : zs.filter (fun z => !f z) = zs := by
  rw [List.filter_eq_self]
  intro z hz
  rw [List.any_eq_false] at h
  simpa using h z hz
theorem indexFuncT_any (K : Nat) (hK : ∀ args w, (callFunc K args).run Try.prog w = .ok (.enter K args) w) (f : Int → Bool) (v : Value) (w : World) (hf : ∀ z, Calls Try.prog K #[.int .i64 z, v] w fun e w' => e = .returned (.bool (f z)) ∧ w = w')
    (A : Option Addr) (n c B : Nat) (zs : List Int) (h : Ints w B A n zs) (hn : n ≤ 140737488351232) :
    Calls Try.prog 42 #[.slice A n c, .func (.func K) #[] #[v]] w fun e w' => e = .returned (.int .i64 (findI f zs)) ∧ w = w' := indexFunc1_any K hK f v w (Lib.hid hf) A n c B zs h hn

set_option maxHeartbeats 1000000 in
theorem deleteFunc1_any (K : Nat) (hK : Hid (∀ args w, (callFunc K args).run Try.prog w = .ok (.enter K args) w)) (f : Int → Bool) (v : Value) (w : World) (B : Nat) (A : Option Addr) (n c : Nat) (zs : List Int)
    (hf : Hid (∀ w', Touch w w' A → ∀ z, Calls Try.prog K #[.int .i64 z, v] w' fun e w'' => e = .returned (.bool (f z)) ∧ w' = w''))
    (h : Own w B 2 1 A n c (zs.map (Value.int .i64))) (hn : n ≤ 1048576) :
    Calls Try.prog 27 #[.slice A n c, .func (.func K) #[] #[v]] w fun e w' => ∃ m, e = .returned (.slice A m c) ∧ m ≤ n ∧ Own w' B 2 1 A m c ((zs.filter (fun z => !f z)).map (Value.int .i64)) ∧ Touch w w' A := by
  have HL := Lib.hid (own_reads h).len
  have hcap := h.cap
  have hcm : c ≤ maxLen := by
    rcases h.2 with ⟨hv, h0⟩ | ⟨g, cap, cur, hv, _, _, hnc, hm, _⟩
    · injection hv with _ _ h3; subst h3; simp [maxLen]
    · injection hv with _ _ h3; subst h3; exact hm
  unfold maxLen at hcm
  rcases findI_cases f zs with ⟨e1, hany⟩ | ⟨i0, hi0, e1, hany, hfi⟩
  · have Hres : Hid (zs.filter (fun z => !f z) = zs) := Lib.hid (filter_none hany)
    go_enter Try.func27, Try.ntmps27
    go_wp2_with (go_at_call 42; refine (indexFuncT_any K hK.out f v _ (hf.out _ (Touch.refl _ _)) A n c _ zs (own_reads h) (by omega)).mono ?_; rintro e w' ⟨rfl, rfl⟩; rw [e1])
    go_ret
    exact ⟨n, rfl, Nat.le_refl _, by rw [Hres.out]; exact h, Touch.refl _ _⟩
  · rw [HL.out] at hi0
    obtain ⟨g, rfl⟩ : ∃ g, A = some ⟨g, 0, none⟩ := by
      obtain ⟨g, e, _⟩ := own_some h (by omega)
      exact ⟨g, e⟩
    have Hf0 : Hid ((zs.take (i0 + 1)).filter (fun z => !f z) = zs.take i0) := Lib.hid (by
      rw [filter_take_succ (by rw [HL.out]; omega), hfi]
      simp only [Bool.not_true, Bool.false_eq_true, if_false, List.append_nil]
      exact filter_none hany)
    clear hany hfi
    have hKo := hK.out
    go_enter Try.func27, Try.ntmps27
    go_wp2_with (go_at_call 42; refine (indexFuncT_any K hK.out f v _ (hf.out _ (Touch.refl _ _)) _ n c _ zs (own_reads h) (by omega)).mono ?_; rintro e w' ⟨rfl, rfl⟩; rw [e1])
    go_loopg [5, 6] (n - (i0 + 1)) (fun gk i j wr => ∃ (a b : Nat) (ys : List Int), a < b ∧ b ≤ n ∧ gk + b = n ∧ i = .int .i64 a ∧ j = .int .i64 b ∧ a = ((zs.take b).filter (fun z => !f z)).length ∧ ys.length = n ∧ ys.take a = (zs.take b).filter (fun z => !f z) ∧ ys.drop b = zs.drop b ∧
      Own wr B 2 1 (some ⟨g, 0, none⟩) n c (ys.map (Value.int .i64)) ∧ Touch w wr (some ⟨g, 0, none⟩))
    case atStart => exact ⟨i0, i0 + 1, zs, by omega, by omega, by omega, rfl, by go_num, by rw [Hf0.out, List.length_take, HL.out]; omega, HL.out, Hf0.out.symm, rfl, h, Touch.refl _ _⟩
    case round =>
      clear h Hf0 e1
      obtain ⟨a, b, ys, hab, hb, hgk, rfl, rfl, ha, hyl, hyt, hyd, ho, ht⟩ := hrel
      have Hgk := Lib.hid hgk
      have Ha := Lib.hid ha
      have Hyt := Lib.hid hyt
      clear hgk ha hyt
      by_cases hlt : b < n
      · have hc := own_nth ho (j := b) hlt
        have hnb : nth ys b = nth zs b := by
          have := congrArg (fun l => nth l 0) hyd
          simpa [nth, List.getD, List.getElem?_drop] using this
        have Hyd1 : Hid (ys.drop (b + 1) = zs.drop (b + 1)) := Lib.hid (by
          have := congrArg (List.drop 1) hyd
          simpa [List.drop_drop, Nat.add_comm] using this)
        rw [hnb] at hc
        clear hyd hnb
        have Hsucc := Lib.hid (filter_take_succ (f := fun z => !f z) (zs := zs) (k := b) (by rw [HL.out]; omega))
        have hfz := ho.frozenAt (j := a)
        have hcell := own_nth ho (j := a) (by omega)
        have Hst := Lib.hid (own_put ho (j := a) (nth zs b))
        have hq1 : IntKind.i64.wrap ((b : Int) + 1) = (b : Int) + 1 := IntWalk.i64_in _ (by omega)
        have hq2 : IntKind.i64.wrap ((a : Int) + 1) = (a : Int) + 1 := IntWalk.i64_in _ (by omega)
        go_wp2_with fail
        refine (hf.out _ ht (nth zs b)).mono ?_
        rintro e w' ⟨rfl, rfl⟩
        cases hfb : f (nth zs b) with
        | true =>
          rw [hfb] at Hsucc
          have Hs : Hid ((zs.take (b + 1)).filter (fun z => !f z) = (zs.take b).filter (fun z => !f z)) := Lib.hid (by rw [Hsucc.out]; simp)
          go_wp2_with fail
          have hgk := Hgk.out
          go_roundg (gk - 1)
          case rel => exact ⟨a, b + 1, ys, by omega, by omega, by omega, rfl, by go_num, by rw [Hs.out]; exact Ha.out, hyl, by rw [Hs.out]; exact Hyt.out, Hyd1.out, ho, ht⟩
          case measure => omega
        | false =>
          rw [hfb] at Hsucc
          have Hs : Hid ((zs.take (b + 1)).filter (fun z => !f z) = (zs.take b).filter (fun z => !f z) ++ [nth zs b]) := Lib.hid (by rw [Hsucc.out]; simp)
          go_wp2_with fail
          have hgk := Hgk.out
          go_roundg (gk - 1)
          case rel =>
            refine ⟨a + 1, b + 1, ys.set a (nth zs b), by omega, by omega, by omega, by go_num, by go_num, by rw [Hs.out, List.length_append, ← Ha.out]; rfl, by simp [hyl], ?_, ?_, Hst.out, ht.grown (ho.stored (j := a) _).2 rfl⟩
            · rw [Hs.out, ← Hyt.out, take_succ_nth (by simp; omega), List.take_set_of_le (Nat.le_refl _), nth_set (by omega), if_pos rfl]
            · rw [List.drop_set_of_lt (by omega)]; exact Hyd1.out
          case measure => omega
      · have hbe : b = n := by omega
        have Hres : Hid ((zs.take b).filter (fun z => !f z) = zs.filter (fun z => !f z)) := Lib.hid (by rw [hbe, ← HL.out, List.take_length])
        have Hyd := Lib.hid hyd
        clear hyd
        obtain ⟨us, he, hou, hgr⟩ := Own.setCells (List.replicate (n - a) (Value.int .i64 0)) a wr _ ho
        have Hou := Lib.hid hou
        have Hgr := Lib.hid hgr
        have He := Lib.hid he
        have qC : ∀ cc ty, (Builtin.clear_ #[27] ty #[.slice (some ⟨g, a, none⟩) (n - a) cc]).run Try.prog wr = .ok (.tuple #[]) (wr.setCells g a (List.replicate (n - a) (.int .i64 0))) := fun cc ty =>
          Lib.run_clear_slice wr 27 2 ty (.int .i64 0) Try.underlying27 (fun _ => rfl) rfl rfl g a (n - a) cc (by omega)
            (fun j hj => by rw [ho.cellAt (by omega), List.getElem?_map, getElem?_nth (by omega)]; rfl) (fun j hj => ho.frozenAt)
        clear hou hgr he
        go_wp2_with fail
        go_ret
        have hx := Hou.out.head (k := a) (by omega)
        rw [He.out, ← List.map_take, Hyt.out, Hres.out] at hx
        exact ⟨a, rfl, by omega, hx, ht.grown Hgr.out rfl⟩

/-! ### the places that need a ladder -/
def needTo (ta tb : List Int) (k : Nat) : List Int := ((List.range k).filter (fun v => !decide (0 ≤ nth ta v) && decide (0 ≤ nth tb v))).map Int.ofNat
theorem needTo_succ (ta tb : List Int) (k : Nat) : needTo ta tb (k + 1) = needTo ta tb k ++ (if !decide (0 ≤ nth ta k) && decide (0 ≤ nth tb k) then [(k : Int)] else []) := by
  rw [needTo, List.range_succ, List.filter_append, List.map_append, ← needTo]
  congr 1
  by_cases e : (!decide (0 ≤ nth ta k) && decide (0 ≤ nth tb k)) = true
  · rw [if_pos e]; simp [List.filter_cons, e]
  · rw [if_neg e]; simp [List.filter_cons, e]
theorem needTo_len (ta tb : List Int) (k : Nat) : (needTo ta tb k).length ≤ k := by
  rw [needTo, List.length_map]
  exact Nat.le_trans (List.length_filter_le _ _) (by simp)
theorem selTo_any (b : Bool) (ts : List Int) (k v : Nat) (hv : v < k) : (selTo b ts k).any (fun z => (v : Int) == z) = (decide (0 ≤ nth ts v) == b) := by
  rw [Bool.eq_iff_iff, List.any_eq_true]
  unfold selTo
  constructor
  · rintro ⟨z, hz, he⟩
    obtain ⟨u, hu, rfl⟩ := List.mem_map.1 hz
    have e : (v : Int) = (u : Int) := by simpa using he
    have e : v = u := by omega
    subst e
    exact (List.mem_filter.1 hu).2
  · intro h
    exact ⟨(v : Int), List.mem_map.2 ⟨v, List.mem_filter.2 ⟨List.mem_range.2 hv, h⟩, rfl⟩, by simp⟩
theorem sel_need (ta tb : List Int) (P : Nat) : ∀ k, k ≤ P → (selTo true tb k).filter (fun v => !(selTo true ta P).any (fun z => v == z)) = needTo ta tb k := by
  intro k
  induction k with
  | zero => intro _; rfl
  | succ k ih =>
    intro hk
    rw [selTo_succ, needTo_succ, List.filter_append, ih (by omega)]
    congr 1
    have e := selTo_any true ta P k (by omega)
    by_cases h2 : 0 ≤ nth tb k
    · by_cases h1 : 0 ≤ nth ta k
      · simp [h1, h2, e]
      · simp [h1, h2, e]
    · simp [h2]
def rNeeds (p : Int) (l : List WalkR) (ys : List Int) : List Int × Int :=
  if askW p l true (risesB 0 (top p) ys) = 0 then (needTo (timesR p l ys false) (timesR p l ys true) p.toNat, 0) else ([], askW p l true (risesB 0 (top p) ys))

theorem needs1_any {b : Nat} {A : Option Addr} {n c B : Nat} {zs : List Int} (z : Int) (w : World) (hc : w.cell? ⟨b, 0, none⟩ = some (.slice A n c)) (h : Ints w B A n zs) (hn : n ≤ 1048576) :
    Calls Try.prog 28 #[.int .i64 z, .pointer (some ⟨b, 0, none⟩)] w fun e w' => e = .returned (.bool (zs.any (fun y => z == y))) ∧ w = w' := by
  go_enter Try.func28, Try.ntmps28
  go_wp2_with (go_at_call 29; refine (contains_any A n c B zs z _ h (by omega)).mono ?_; rintro e w' ⟨rfl, rfl⟩)
  go_ret
  exact ⟨rfl, rfl⟩

theorem implNeedsLadder_any {A A' : Option Addr} {n c B n' c' B' : Nat} {p : Int} {l : List WalkR} {ys : List Int} {w : World} (h : Reads w B 4 A n (l.flatMap WalkR.cells)) (hB : B ≤ w.heap.size) (hc : n ≤ c) (hn : n ≤ 1048576)
    (h' : Ints w B' A' n' ys) (hB' : B' ≤ w.heap.size) (hc' : n' ≤ c') (hn' : n' ≤ 1048576) :
    Calls Try.prog 10 #[.int .i64 p, .slice A n c, .slice A' n' c'] w fun e w' => ∃ A2 n2 c2, e = .returned (.tuple #[.slice A2 n2 c2, .int .i64 (rNeeds p l ys).2]) ∧ n2 ≤ 1048576 ∧
      Own w' w.heap.size 2 1 A2 n2 c2 ((rNeeds p l ys).1.map (Value.int .i64)) ∧ Below w.heap.size w w' := by
  by_cases ha : askW p l true (risesB 0 (top p) ys) = 0
  · have Hr : Hid (rNeeds p l ys = (needTo (timesR p l ys false) (timesR p l ys true) p.toNat, 0)) := Lib.hid (by rw [rNeeds, if_pos ha])
    obtain ⟨hw, _, hi⟩ := askW_zero.1 ha
    have hp := (okW_of hw).2
    have hsl1 := selTo_len true (timesR p l ys true) p.toNat
    have hsl2 := selTo_len true (timesR p l ys false) p.toNat
    have Hneed := Lib.hid (sel_need (timesR p l ys false) (timesR p l ys true) p.toNat p.toNat (Nat.le_refl _))
    rw [hi] at ha
    go_enter Try.func10, Try.ntmps10
    go_wp2_with (go_at_call 24; refine (areExits_any h' hn').mono ?_; rintro e w' ⟨rfl, rfl⟩)
    refine (walked_any h hB hn).mono ?_
    rintro e w1 ⟨rfl, b1⟩
    rw [ha]
    have hs1 := b1.size
    go_wp2_with fail
    refine (reachable_any (Reads.below h b1 hB) (by omega) hn (Reads.below h' b1 hB') (by omega) hn' hw).mono ?_
    rintro e w2 ⟨A2, c2, rfl, o2, b2⟩
    have b02 := b1.trans (b2.mono hs1)
    have hs2 := b02.size
    go_wp2_with fail
    refine (reachable_any (Reads.below h b02 hB) (by omega) hn (Reads.below h' b02 hB') (by omega) hn' hw).mono ?_
    rintro e w3 ⟨A3, c3, rfl, o3, b3⟩
    have b03 := b02.trans (b3.mono hs2)
    have hs3 := b03.size
    have p23 := apart_of o2 o3 (Nat.le_refl _)
    have o2' := (o2.below b3).mono hs1
    generalize hta : timesR p l ys false = ta at *
    generalize htb : timesR p l ys true = tb at *
    clear hta htb
    go_wp2_with fail
    have hx0 : (w3.alloc (.cells #[.slice A3 (selTo true ta p.toNat).length c3] 27)).cell? ⟨w3.heap.size, 0, none⟩ = some (.slice A3 (selTo true ta p.toNat).length c3) := by simp
    have o2a := o2'.alloc (.cells #[.slice A3 (selTo true ta p.toNat).length c3] 27)
    have o3a := o3.alloc (.cells #[.slice A3 (selTo true ta p.toNat).length c3] 27)
    have b4 := b03.alloc hs3 (.cells #[.slice A3 (selTo true ta p.toNat).length c3] 27)
    have hlt2 : ∀ a, A2 = some a → a.block ≠ w3.heap.size := fun a e => by have := (o2'.block_lt a e).2.2.2; omega
    generalize w3.alloc (.cells #[.slice A3 (selTo true ta p.toNat).length c3] 27) = W4 at *
    have hs4 := b4.size
    have hb34 : w3.heap.size < W4.heap.size := World.block_lt_of_cell? W4 _ hx0
    refine (deleteFunc1_any _ (Lib.hid Try.call28) (fun z => (selTo true ta p.toNat).any (fun y => z == y)) (.pointer (some ⟨w3.heap.size, 0, none⟩)) W4 w.heap.size A2 _ c2 (selTo true tb p.toNat)
      (Lib.hid fun w' ht z => needs1_any (B := w'.heap.size) z w' ((World.cell?_of_block (ht.block w3.heap.size hb34 hlt2)).trans hx0) (own_reads (o3a.touch ht p23)) (by omega)) o2a (by omega)).mono ?_
    rintro e w5 ⟨m, rfl, hm, o5, t5⟩
    go_wp2_with fail
    go_ret2
    exact ⟨A2, m, c2, by rw [Hr.out]; rfl, by omega, by rw [Hr.out]; show Own _ _ _ _ _ _ _ ((needTo ta tb p.toNat).map _); rw [← Hneed.out]; exact o5, b4.trans (t5.below (fun a e => (o2a.block_lt a e).2.2.1) hs4)⟩
  · have Hr : Hid (rNeeds p l ys = ([], askW p l true (risesB 0 (top p) ys))) := Lib.hid (by rw [rNeeds, if_neg ha])
    go_enter Try.func10, Try.ntmps10
    go_wp2_with (go_at_call 24; refine (areExits_any h' hn').mono ?_; rintro e w' ⟨rfl, rfl⟩)
    refine (walked_any h hB hn).mono ?_
    rintro e w1 ⟨rfl, b1⟩
    generalize askW p l true (risesB 0 (top p) ys) = cd at ha Hr ⊢
    go_wp2_with fail
    go_ret2
    exact ⟨none, 0, 0, by rw [Hr.out]; rfl, by omega, by rw [Hr.out]; exact Own.nil _ _ _ _, b1⟩

end Go.Proofs.Ytcppogfffgdjhaa
