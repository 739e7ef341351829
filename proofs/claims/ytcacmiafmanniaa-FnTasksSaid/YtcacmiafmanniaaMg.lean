/- Helpers: FillTasks: contracts of both sides. -/
import Derived.Test.YtcacmiafmanniaaMf
namespace Go.Proofs.Ytcacmiafmanniaa
open Go.RowKit
set_option maxRecDepth 100000
set_option linter.unusedVariables false
set_option linter.unusedSimpArgs false

/-! ### plain -/
def ci (g : List Nat) : List Int := g.map fun k : Nat => (k : Int)
theorem ci_len (g : List Nat) : (ci g).length = g.length := by simp [ci]
theorem ci_any (g : List Nat) (k : Nat) : (ci g).any (fun z => (k : Int) == z) = g.contains k := by
  induction g with
  | nil => rfl
  | cons a g ih =>
    have e : ci (a :: g) = (a : Int) :: ci g := rfl
    rw [e, List.any_cons, ih, List.contains_cons]
    congr 1
    rw [Bool.eq_iff_iff]; simp [Int.ofNat_inj]
theorem csH_filter (l : List HelperR) (t : TaskR) : csH l t = (List.range l.length).filter fun k => canB (HelperR.at_ l k) t := by
  unfold csH
  have : ∀ n, (canTo l t n).map Int.toNat = (List.range n).filter fun k => canB (HelperR.at_ l k) t := by
    intro n
    induction n with
    | zero => rfl
    | succ n ih =>
      rw [canTo_succ, List.map_append, ih, List.range_succ, List.filter_append]
      congr 1
      cases h : canB (HelperR.at_ l n) t <;> simp [h]
  exact this _
/-- The helpers whose places are not given, of the first k. -/
def restL (l : List HelperR) (g : List Nat) (k : Nat) : List HelperR := ((List.range k).filter fun j => !g.contains j).map fun j => HelperR.at_ l j
theorem restL_succ (l : List HelperR) (g : List Nat) (k : Nat) : restL l g (k + 1) = restL l g k ++ (if g.contains k then [] else [HelperR.at_ l k]) := by
  unfold restL
  rw [List.range_succ, List.filter_append, List.map_append]
  congr 1
  cases h : g.contains k <;> simp only [List.filter_cons, List.filter_nil, h] <;> rfl
theorem restL_le (l : List HelperR) (g : List Nat) (k : Nat) : (restL l g k).length ≤ k := by
  unfold restL
  rw [List.length_map]
  exact Nat.le_trans (List.length_filter_le _ _) (by simp)
/-- May the tasks ts be filled by those whose places are not given? -/
def fullB (l : List HelperR) (ts : List TaskR) (g : List Nat) : Bool := decide (mfill (csH (restL l g l.length)) ts 0 = ts.length)
theorem fillR_opt (l : List HelperR) (ts : List TaskR) (g : List Nat) : Opt (cOf (csH l) ts) (fun h => h ∉ g) ts.length (mfill (csH (restL l g l.length)) ts 0) := by
  have h2 := mfill_opt (csH (restL l g l.length)) ts 0
  have hlen : (restL l g l.length).length = ((List.range l.length).filter fun j => !g.contains j).length := by simp [restL]
  have h3 : Opt (cB (restL l g l.length) ts) (fun j => j < ((List.range l.length).filter fun j => !g.contains j).length) ts.length (mfill (csH (restL l g l.length)) ts 0) := by
    refine h2.congr fun j i hi => ?_
    rw [cOf_iff _ ts j i hi, hlen]
    simp
  have h4 := h3.places (c := cB l ts) (List.Nodup.sublist List.filter_sublist List.nodup_range) (fun j i hj hi => by
    unfold cB
    congr 2
    simp only [restL, HelperR.at_, List.getD, List.getElem?_map, List.getElem?_eq_getElem hj, Option.map_some, Option.getD_some])
  refine h4.congr fun j i hi => ?_
  rw [cOf_iff _ ts j i hi]
  simp only [List.mem_filter, List.mem_range, Bool.not_eq_true', List.contains_eq_mem, decide_eq_false_iff_not]
  constructor
  · rintro ⟨⟨a, b⟩, d⟩; exact ⟨b, a, d⟩
  · rintro ⟨b, a, d⟩; exact ⟨⟨a, b⟩, d⟩
theorem fullB_eq (l : List HelperR) (ts : List TaskR) (g : List Nat) : fullB l ts g = (fillR (csH l) ts g).isSome := by
  have h1 := fillR_opt l ts g
  have h2 := fillR_iff (csH l) ts g
  cases h : (fillR (csH l) ts g).isSome with
  | true => exact decide_eq_true (h1.same (h2.1 h))
  | false =>
    refine decide_eq_false fun e => ?_
    rw [e] at h1
    rw [h2.2 h1] at h; cases h
theorem restL_nil (l : List HelperR) : restL l [] l.length = l := by
  unfold restL
  rw [List.filter_eq_self.2 (by simp)]
  apply List.ext_getElem?
  intro i
  by_cases hi : i < l.length
  · simp [HelperR.at_, List.getD, hi]
  · simp [hi]
theorem fill_most (l : List HelperR) (tl : List TaskR) : mfill (csH l) tl 0 < tl.length ↔ fillR (csH l) tl [] = none := by
  have h := fullB_eq l tl []
  unfold fullB at h
  rw [restL_nil] at h
  have hle := mfill_le (csH l) tl 0
  cases hf : fillR (csH l) tl [] with
  | none => rw [hf] at h; have := of_decide_eq_false h; simp; omega
  | some r => rw [hf] at h; have := of_decide_eq_true h; simp; omega
def rFillTasks (l : List HelperR) (tl : List TaskR) : List Int × Int := if helperBAll l && taskBAll tl then (match fillR (csH l) tl [] with | some r => (ci r, 0) | none => ([], 3)) else ([], 1)
/-- Whom the search through all ways takes next. -/
def nextF (l : List HelperR) (ts : List TaskR) (g : List Nat) (k : Nat) : Option (List Nat) := if g.contains k then none else fillR (csH l) ts (g ++ [k])
theorem fillR_cons (l : List HelperR) (t : TaskR) (ts : List TaskR) (g : List Nat) : fillR (csH l) (t :: ts) g = (csH l t).findSome? (nextF l ts g) := rfl
theorem find_take {α β : Type} (f : α → Option β) (xs : List α) (d : α) (i : Nat) (h : i < xs.length) (h0 : (xs.take i).findSome? f = none) : (xs.take (i + 1)).findSome? f = f (xs.getD i d) := by
  rw [List.take_succ_eq_append_getElem h, List.findSome?_append, h0]
  simp [List.getD, List.getElem?_eq_getElem h]
theorem find_some {α β : Type} (f : α → Option β) (xs : List α) (d : α) (i : Nat) (h : i < xs.length) (h0 : (xs.take i).findSome? f = none) (r : β) (hr : f (xs.getD i d) = some r) : xs.findSome? f = some r := by
  have h1 := find_take f xs d i h h0
  rw [hr] at h1
  rw [← List.take_append_drop (i + 1) xs, List.findSome?_append, h1]; rfl
theorem fillR_len (l : List HelperR) : ∀ (ts : List TaskR) (g r : List Nat), fillR (csH l) ts g = some r → r.length = g.length + ts.length := by
  intro ts
  induction ts with
  | nil => intro g r h; injection h with h; subst h; rfl
  | cons t ts ih =>
    intro g r h
    rw [fillR_cons, List.findSome?_eq_some_iff] at h
    obtain ⟨_, k, _, _, hk, _⟩ := h
    unfold nextF at hk
    split at hk
    · cases hk
    · have := ih _ _ hk; rw [this]; simp; omega
theorem drop_at {tl : List TaskR} {i : Nat} (h : i < tl.length) : tl.drop i = TaskR.at_ tl i :: tl.drop (i + 1) := by
  rw [List.drop_eq_getElem_cons h]
  congr 1
  simp [TaskR.at_, List.getD, List.getElem?_eq_getElem h]

theorem tasks_cut {w : World} {B n k cap : Nat} {A : Option Addr} {l : List TaskR} (h : Reads w B 3 A n (l.flatMap TaskR.cells)) (hk : k ≤ n) (hc : n ≤ cap) : Reads w B 3 (if cap = k then A else A.map (·.add (k * 3))) (n - k) ((l.drop k).flatMap TaskR.cells) := by
  have hl := TaskR.count h
  have e : l.flatMap TaskR.cells = (l.take k).flatMap TaskR.cells ++ (l.drop k).flatMap TaskR.cells := by rw [← List.flatMap_append, List.take_append_drop]
  have h1 := Reads.cut h hk hc
  rw [e, List.drop_append_of_le_length (by rw [flat_len _ 3 TaskR.clen, List.length_take]; omega), List.drop_of_length_le (by rw [flat_len _ 3 TaskR.clen, List.length_take]; omega), List.nil_append] at h1
  exact h1
/-- Whom the reference takes for task i. -/
def takeP (l : List HelperR) (tl : List TaskR) (i : Nat) (g : List Nat) (k : Nat) : Bool := canB (HelperR.at_ l k) (TaskR.at_ tl i) && (!g.contains k && fullB l (tl.drop (i + 1)) (g ++ [k]))
theorem find_first {l : List HelperR} {tl : List TaskR} {i : Nat} {g : List Nat} : (csH l (TaskR.at_ tl i)).find? (fun k => !g.contains k && fullB l (tl.drop (i + 1)) (g ++ [k])) = (List.range l.length).find? (takeP l tl i g) := by
  rw [csH_filter, List.find?_filter]
  congr 1
  funext k
  unfold takeP
  cases canB (HelperR.at_ l k) (TaskR.at_ tl i) <;> simp
theorem greedy_yes {l : List HelperR} {tl : List TaskR} {i k : Nat} {g : List Nat} (hi : i < tl.length) (hk : k < l.length) (h1 : takeP l tl i g k = true) (h0 : allTo (fun j => !takeP l tl i g j) k = true) :
    greedy (csH l) (fullB l) (tl.drop i) g = greedy (csH l) (fullB l) (tl.drop (i + 1)) (g ++ [k]) := by
  rw [drop_at hi, greedy, find_first]
  have : (List.range l.length).find? (takeP l tl i g) = some k := by
    rw [List.find?_range_eq_some]
    exact ⟨h1, List.mem_range.2 hk, fun j hj => by have := allTo_true.1 h0 j hj; simpa using this⟩
  rw [this]
theorem greedy_no {l : List HelperR} {tl : List TaskR} {i : Nat} {g : List Nat} (hi : i < tl.length) (h0 : allTo (fun j => !takeP l tl i g j) l.length = true) :
    greedy (csH l) (fullB l) (tl.drop i) g = greedy (csH l) (fullB l) (tl.drop (i + 1)) g := by
  rw [drop_at hi, greedy, find_first]
  have : (List.range l.length).find? (takeP l tl i g) = none := by
    rw [List.find?_eq_none]
    intro x hx
    have := allTo_true.1 h0 x (List.mem_range.1 hx)
    simpa using this
  rw [this]
theorem kuhn_rest (l : List HelperR) (ts : List TaskR) : (kuhn (cB l ts) l.length (seen0 l.length (-1)) ts.length).2 = mfill (csH l) ts 0 := most_eq l ts

set_option maxHeartbeats 4000000 in
theorem specFillTasks_any {A A'' : Option Addr} {n c B nt ct B'' : Nat} {l : List HelperR} {tl : List TaskR} {w : World} (h : Reads w B 3 A n (l.flatMap HelperR.cells)) (hB : B ≤ w.heap.size) (hc : n ≤ c) (hn : n ≤ 1048576) (hF : ∀ x ∈ l, x.Id.size ≤ 1048576)
    (ht : Reads w B'' 3 A'' nt (tl.flatMap TaskR.cells)) (hB'' : B'' ≤ w.heap.size) (hct : nt ≤ ct) (hnt : nt ≤ 1048576) (hFt : ∀ x ∈ tl, x.Id.size ≤ 1048576) :
    Calls Try.prog 7 #[.slice A n c, .slice A'' nt ct] w fun e w' => ∃ A2 n2 c2, e = .returned (.tuple #[.slice A2 n2 c2, .int .i64 (rFillTasks l tl).2]) ∧ n2 ≤ 1048576 ∧
      Own w' w.heap.size 2 1 A2 n2 c2 ((rFillTasks l tl).1.map (Value.int .i64)) ∧ Below w.heap.size w w' := by
  have HL := Lib.hid (HelperR.count h)
  have HT := Lib.hid (TaskR.count ht)
  obtain ⟨i0, hi0, hz0, hz1, hz2⟩ := info_parts info_int
  obtain ⟨i1, hi1, hy0, hy1, hy2⟩ := info_parts info_Helper
  go_enter Try.func7, Try.ntmps7
  go_wp2_with fail
  refine (l24Helpers_any h hB hn hF).mono ?_
  rintro e w1 ⟨rfl, b1⟩
  have hs1 := b1.size
  cases v1 : helperBAll l with
  | false =>
    have Hr : Hid (rFillTasks l tl = ([], 1)) := Lib.hid (by unfold rFillTasks; rw [v1]; rfl)
    clear v1
    go_wp2_with fail
    go_ret2
    exact ⟨none, 0, 0, by rw [Hr.out]; rfl, by omega, by rw [Hr.out]; exact Own.nil _ _ _ _, b1⟩
  | true =>
  have V1 := Lib.hid v1
  clear v1
  go_wp2_with fail
  refine (l24Tasks_any (Reads.below ht b1 hB'') (by omega) hnt hFt).mono ?_
  rintro e w2 ⟨rfl, b2⟩
  have b12 := b1.trans (b2.mono hs1)
  have hs2 := b12.size
  cases v2 : taskBAll tl with
  | false =>
    have Hr : Hid (rFillTasks l tl = ([], 1)) := Lib.hid (by unfold rFillTasks; rw [V1.out, v2]; rfl)
    clear v2
    go_wp2_with fail
    go_ret2
    exact ⟨none, 0, 0, by rw [Hr.out]; rfl, by omega, by rw [Hr.out]; exact Own.nil _ _ _ _, b12⟩
  | true =>
    have Hr : Hid (rFillTasks l tl = match fillR (csH l) tl [] with | some r => (ci r, 0) | none => ([], 3)) := Lib.hid (by unfold rFillTasks; rw [V1.out, v2]; rfl)
    have He : Hid ((kuhn (cB l tl) n (seen0 n (-1)) nt).2 = mfill (csH l) tl 0) := Lib.hid (by rw [← HL.out, ← HT.out, most_eq])
    have hn10 : n ≤ 10 := by have := helperB_len V1.out; rw [HL.out] at this; exact this
    have hn8 : nt ≤ 8 := by have := taskB_len v2; rw [HT.out] at this; exact this
    clear v2
    go_wp2_with fail
    refine (most_any (wo := -1) (Reads.below h b12 hB) (by omega) hn (Reads.below ht b12 hB'') (by omega) hnt (.inl (by omega))).mono ?_
    rw [He.out]
    rintro e w3 ⟨rfl, b3⟩
    have b13 := b12.trans (b3.mono hs2)
    have hs13 := b13.size
    clear b1 b2 hs1 b12 hs2 b3
    by_cases hlt0 : mfill (csH l) tl 0 < nt
    · have hd : decide (mfill (csH l) tl 0 < nt) = true := decide_eq_true hlt0
      have Hf : Hid (fillR (csH l) tl [] = none) := Lib.hid ((fill_most l tl).1 (by rw [HT.out]; exact hlt0))
      clear hlt0
      go_wp2_with fail
      go_ret2
      exact ⟨none, 0, 0, by rw [Hr.out, Hf.out]; rfl, by omega, by rw [Hr.out, Hf.out]; exact Own.nil _ _ _ _, b13⟩
    · have hd : decide (mfill (csH l) tl 0 < nt) = false := decide_eq_false hlt0
      obtain ⟨r, hr⟩ : ∃ r, fillR (csH l) tl [] = some r := by
        cases hf : fillR (csH l) tl [] with
        | some r => exact ⟨r, rfl⟩
        | none => exact absurd ((fill_most l tl).2 hf) (by rw [HT.out]; exact hlt0)
      have Hf := Lib.hid hr
      have Hg : Hid (greedy (csH l) (fullB l) (tl.drop 0) [] = r) := Lib.hid (greedy_fill (csH l) (fullB l) (fullB_eq l) tl [] r hr)
      have Hrn : Hid (r.length = nt) := Lib.hid (by have := fillR_len l tl [] r hr; rw [this, HT.out]; simp)
      have Hb13 := Lib.hid b13
      clear hlt0 hr b13
      go_wp2_with fail
      go_loopg [6, 7] nt (fun gk vo vi wr => ∃ (i : Nat) (A2 : Option Addr) (c2 : Nat) (g : List Nat), i ≤ nt ∧ gk + i = nt ∧ vi = .int .i64 i ∧ g.length ≤ i ∧ vo = .slice A2 g.length c2 ∧
        Own wr w.heap.size 2 1 A2 g.length c2 ((ci g).map (Value.int .i64)) ∧ greedy (csH l) (fullB l) (tl.drop i) g = r ∧ Below w.heap.size w wr)
      case atStart => exact ⟨0, _, 0, [], by omega, by omega, rfl, by simp, rfl, Own.empty _ _ _ _ hs13, Hg.out, Hb13.out.alloc hs13 _⟩
      case round =>
        clear Hb13 hs13 Hg
        obtain ⟨i, A2, c2, g, hi, hgk, rfl, hgi, rfl, ho, hg, hb⟩ := hrel
        obtain ⟨gko, hgko⟩ : ∃ gko, gko = gk := ⟨_, rfl⟩
        have Hgko := Lib.hid hgko
        have Hgk := Lib.hid hgk
        have Hg := Lib.hid hg
        have hbs := hb.size
        clear hgk hg hgko
        have hqi : IntKind.i64.wrap ((i : Int) + 1) = (i : Int) + 1 := IntWalk.i64_in _ (by omega)
        by_cases hlt : i < nt
        · have hi0' : (0 : Int) ≤ (i : Int) := by omega
          have hi1' : (i : Int) < (nt : Int) := by omega
          go_wp2_with fail
          go_loopg [6, 8] n (fun gk vo vh wr => ∃ k : Nat, k ≤ n ∧ gk + k = n ∧ vh = .int .i64 k ∧ vo = .slice A2 g.length c2 ∧ allTo (fun j => !takeP l tl i g j) k = true ∧
            Own wr w.heap.size 2 1 A2 g.length c2 ((ci g).map (Value.int .i64)) ∧ Below w.heap.size w wr)
          case atStart => exact ⟨0, by omega, by omega, rfl, rfl, rfl, ho, hb⟩
          case round =>
            clear ho hb hbs
            obtain ⟨k, hk, hgk2, rfl, rfl, hall, ho, hb⟩ := hrel
            have Hgk2 := Lib.hid hgk2
            have Hall := Lib.hid hall
            have hbs := hb.size
            clear hgk2 hall
            have hqk : IntKind.i64.wrap ((k : Int) + 1) = (k : Int) + 1 := IntWalk.i64_in _ (by omega)
            by_cases hltk : k < n
            · have hk0 : (0 : Int) ≤ (k : Int) := by omega
              have hk1 : (k : Int) < (n : Int) := by omega
              have Hp : Hid (takeP l tl i g k = (canB (HelperR.at_ l k) (TaskR.at_ tl i) && (!g.contains k && fullB l (tl.drop (i + 1)) (g ++ [k])))) := Lib.hid rfl
              have Has := Lib.hid (allTo_succ (fun j => !takeP l tl i g j) k)
              obtain ⟨ad, rfl, hbl, p0, p1, p2⟩ := HelperR.rd (h.below hb hB) hltk
              obtain ⟨adt, rfl, hblt, q0, q1, q2⟩ := TaskR.rd (ht.below hb hB'') hlt
              have hgI : Ints wr wr.heap.size A2 g.length (ci g) := ho.reads
              have cH : ∀ d, Calls Try.prog 24 #[.slice A2 g.length c2, .int .i64 (k : Int)] (wr.drewN d) fun e w'' => e = .returned (.bool (g.contains k)) ∧ ∃ m, w'' = wr.drewN m := fun d => by
                have := quiet_left (l00Has_any (c := c2) (v := (k : Int)) (w := wr.drewN d) hgI (by omega)); rw [ci_any] at this; exact this
              have cC : ∀ d, Calls Try.prog 25 #[.pointer (some (ad.add (k * 3))), .pointer (some (adt.add (i * 3)))] (wr.drewN d) fun e w'' => e = .returned (.bool (canB (HelperR.at_ l k) (TaskR.at_ tl i))) ∧ ∃ m, w'' = wr.drewN m := fun d => quiet_draw (l24Can_any (x := HelperR.at_ l k) (t := TaskR.at_ tl i) (w := wr.drewN d) p0 p1 p2 q0 q1 q2)
              cases hc1 : g.contains k with
              | true =>
                rw [hc1] at cH
                have HA : Hid (allTo (fun j => !takeP l tl i g j) (k + 1) = true) := Lib.hid (by rw [Has.out, Hall.out, Hp.out, hc1]; simp)
                clear hc1 Has Hp cC p0 p1 p2 q0 q1 q2
                go_wp2_with fail
                go_quiet (with_reducible exact cH _)
                go_wp2_with fail
                have hgk2 := Hgk2.out
                go_roundg (gk - 1)
                case rel => exact ⟨k + 1, by omega, by omega, by go_num, rfl, HA.out, own_drewN ho _, below_drewN hb _⟩
                case measure => omega
              | false =>
              cases hc2 : canB (HelperR.at_ l k) (TaskR.at_ tl i) with
              | false =>
                rw [hc1] at cH
                rw [hc2] at cC
                have HA : Hid (allTo (fun j => !takeP l tl i g j) (k + 1) = true) := Lib.hid (by rw [Has.out, Hall.out, Hp.out, hc2]; simp)
                clear hc1 hc2 Has Hp p0 p1 p2 q0 q1 q2
                go_wp2_with fail
                go_quiet (first | with_reducible exact cH _ | with_reducible exact cC _)
                go_wp2_with fail
                have hgk2 := Hgk2.out
                go_roundg (gk - 1)
                case rel => exact ⟨k + 1, by omega, by omega, by go_num, rfl, HA.out, own_drewN ho _, below_drewN hb _⟩
                case measure => omega
              | true =>
                rw [hc1] at cH
                rw [hc2] at cC
                have HP : Hid (takeP l tl i g k = fullB l (tl.drop (i + 1)) (g ++ [k])) := Lib.hid (by rw [Hp.out, hc1, hc2]; simp)
                have Hc1 := Lib.hid hc1
                clear hc1 hc2 Hp p0 p1 p2 q0 q1 q2 hgI
                go_wp2_with fail
                go_quiet (first | with_reducible exact cH _ | with_reducible exact cC _)
                clear cH cC
                generalize hW2 : wr.drewN _ = W2
                have ho2 : Own W2 w.heap.size 2 1 A2 g.length c2 ((ci g).map (Value.int .i64)) := by rw [← hW2]; exact own_drewN ho _
                have hb2 : Below w.heap.size w W2 := by rw [← hW2]; exact below_drewN hb _
                have hbs2 := hb2.size
                obtain ⟨gki, hgki⟩ : ∃ gki, gki = gk := ⟨_, rfl⟩
                have Hgki := Lib.hid hgki
                clear hW2 ho hb hbs hgki
                go_wp2_with fail
                go_loopg [9, 10] n (fun gk vr vj wr => ∃ (j : Nat) (A3 : Option Addr) (c3 : Nat), j ≤ n ∧ gk + j = n ∧ vj = .int .i64 j ∧ vr = .slice A3 (restL l (g ++ [k]) j).length c3 ∧
                  Own wr W2.heap.size 35 3 A3 (restL l (g ++ [k]) j).length c3 ((restL l (g ++ [k]) j).flatMap HelperR.cells) ∧ Below W2.heap.size W2 wr)
                case atStart => exact ⟨0, _, 0, by omega, by omega, rfl, rfl, Own.empty _ _ _ _ (Nat.le_refl _), (Below.refl _ _).alloc (Nat.le_refl _) _⟩
                case round =>
                  obtain ⟨j, A3, c3, hj, hgk3, rfl, rfl, ho3, hb3⟩ := hrel
                  have Hgk3 := Lib.hid hgk3
                  have hbs3 := hb3.size
                  have hlen := restL_le l (g ++ [k]) j
                  clear hgk3
                  have hqj : IntKind.i64.wrap ((j : Int) + 1) = (j : Int) + 1 := IntWalk.i64_in _ (by omega)
                  have ho2' := ho2.below hb3
                  have hb23 := hb2.trans (hb3.mono hbs2)
                  have hbs23 := hb23.size
                  by_cases hltj : j < n
                  · have hj0 : (0 : Int) ≤ (j : Int) := by omega
                    have hj1 : (j : Int) < (n : Int) := by omega
                    have Hs0 := Lib.hid (restL_succ l (g ++ [k]) j)
                    by_cases hjk : j = k
                    · have e1 : ((j : Int) != (k : Int)) = false := by simp [hjk]
                      have e2 : (j != k) = false := by simp [hjk]
                      have e3 : decide (j = k) = true := by simp [hjk]
                      have HS : Hid (restL l (g ++ [k]) (j + 1) = restL l (g ++ [k]) j) := Lib.hid (by rw [Hs0.out, if_pos (by rw [hjk]; simp), List.append_nil])
                      clear Hs0 hjk
                      go_wp2_with fail
                      have hgk3 := Hgk3.out
                      go_roundg (gk - 1)
                      case rel => exact ⟨j + 1, A3, c3, by omega, by omega, by go_num, by rw [HS.out], by rw [HS.out]; exact ho3, hb3⟩
                      case measure => omega
                    · have e1 : ((j : Int) != (k : Int)) = true := by simp only [bne_iff_ne, ne_eq]; omega
                      have e2 : (j != k) = true := by simp [hjk]
                      have e3 : decide (j = k) = false := by simp [hjk]
                      have hgJ : Ints wr wr.heap.size A2 g.length (ci g) := ho2'.reads
                      cases hcj : g.contains j with
                      | true =>
                        have HS : Hid (restL l (g ++ [k]) (j + 1) = restL l (g ++ [k]) j) := Lib.hid (by rw [Hs0.out, if_pos (by simp at hcj ⊢; exact .inl hcj), List.append_nil])
                        have Hcj := Lib.hid hcj
                        clear Hs0 hjk hcj
                        go_wp2_with (go_at_call 24; refine (l00Has_any (c := c2) (v := (j : Int)) hgJ (by omega)).mono ?_; rintro e w' ⟨rfl, rfl⟩; rw [ci_any, Hcj.out])
                        have hgk3 := Hgk3.out
                        go_roundg (gk - 1)
                        case rel => exact ⟨j + 1, A3, c3, by omega, by omega, by go_num, by rw [HS.out], by rw [HS.out]; exact ho3, hb3⟩
                        case measure => omega
                      | false =>
                        obtain ⟨ad2, had2, hbl2, p0, p1, p2⟩ := HelperR.rd (h.below hb23 hB) hltj
                        injection had2 with had2
                        subst had2
                        have HS : Hid (restL l (g ++ [k]) (j + 1) = restL l (g ++ [k]) j ++ [HelperR.at_ l j]) := Lib.hid (by
                          rw [Hs0.out, if_neg]
                          simp at hcj ⊢
                          exact ⟨hcj, hjk⟩)
                        have Hl : Hid ((restL l (g ++ [k]) (j + 1)).length = (restL l (g ++ [k]) j).length + 1) := Lib.hid (by rw [HS.out, List.length_append]; rfl)
                        have Hcj := Lib.hid hcj
                        clear Hs0 hjk hcj
                        generalize HelperR.at_ l j = X at *
                        go_wp2_with (first | (go_at_call 24; refine (l00Has_any (c := c2) (v := (j : Int)) hgJ (by omega)).mono ?_; rintro e w' ⟨rfl, rfl⟩; rw [ci_any, Hcj.out]) | (at_builtin; refine wpList_app rfl _ _ 24 rfl 35 i1 _ 3 32 Try.underlying24 hi1 hy0 hy1 hy2 rfl (by omega) (by omega) W2.heap.size _ _ _ _ rfl (ho3.alloc _) ⟨wr.heap.size, 0, none⟩ 1 1 X.cells rfl rfl (cells_new _ _ _) (helper_one X) (by omega) (by simp; omega) ?_))
                        intro A5 c5 w5 ho5 hgA hbA hat
                        have ho6 : Own w5 W2.heap.size 35 3 A5 (restL l (g ++ [k]) (j + 1)).length c5 ((restL l (g ++ [k]) (j + 1)).flatMap HelperR.cells) := by rw [HS.out, List.flatMap_append, List.length_append, List.flatMap_singleton]; exact ho5
                        have hb6 : Below W2.heap.size W2 w5 := (hb3.alloc hbs3 _).trans hbA
                        clear ho5 hgA hbA hat ho3
                        go_wp2_with fail
                        have hgk3 := Hgk3.out
                        go_roundg (gk - 1)
                        case rel => exact ⟨j + 1, A5, c5, by omega, by omega, by go_num, by rw [Hl.out], ho6, hb6⟩
                        case measure => omega
                  · have hje : j = n := by omega
                    have Hje := Lib.hid hje
                    have hd : ¬ (j : Int) < (n : Int) := by omega
                    have hrr := ho3.reads
                    have htX := tasks_cut (ht.below hb23 hB'') (show i + 1 ≤ nt by omega) hct
                    have Hfb : Hid (fullB l (tl.drop (i + 1)) (g ++ [k]) = decide (mfill (csH (restL l (g ++ [k]) j)) (tl.drop (i + 1)) 0 = nt - (i + 1))) := Lib.hid (by rw [fullB, HL.out, ← hje, List.length_drop, HT.out])
                    clear hje ho3 hb3 hbs3
                    generalize restL l (g ++ [k]) j = RL at *
                    obtain ⟨AX, nX, cX, hAX, hRX, hnX⟩ : ∃ (AX : Option Addr) (nX cX : Nat), ((ct = i + 1 ∧ AX = some adt ∧ nX = 0 ∧ cX = 0) ∨ (¬ ct = i + 1 ∧ AX = some (adt.add ((i + 1) * 3)) ∧ nX = nt - (i + 1) ∧ cX = ct - (i + 1))) ∧ Reads wr B'' 3 AX nX ((tl.drop (i + 1)).flatMap TaskR.cells) ∧ nX ≤ 1048576 := by
                      by_cases hc1 : ct = i + 1
                      · rw [if_pos hc1, show nt - (i + 1) = 0 by omega] at htX; exact ⟨_, _, _, .inl ⟨hc1, rfl, rfl, rfl⟩, htX, by omega⟩
                      · rw [if_neg hc1, Option.map_some] at htX; exact ⟨_, _, _, .inr ⟨hc1, rfl, rfl, rfl⟩, htX, by omega⟩
                    have hnX2 := TaskR.count hRX
                    have Hm : Hid (Calls Try.prog 23 #[.slice A3 RL.length c3, .slice AX nX cX, .int .i64 (-1)] wr fun e w' => e = .returned (.int .i64 (mfill (csH RL) (tl.drop (i + 1)) 0 : Nat)) ∧ Below wr.heap.size wr w') := Lib.hid (by
                      have := most_any (wo := -1) (c := c3) (ct := cX) hrr (Nat.le_refl _) (by omega) hRX (by omega) hnX (.inl (by omega))
                      rw [← hnX2, most_eq] at this
                      rw [← hnX2]
                      exact this)
                    have hmle : mfill (csH RL) (tl.drop (i + 1)) 0 ≤ 8 := by have := mfill_le (csH RL) (tl.drop (i + 1)) 0; omega
                    have hqi0 : (0 : Int) ≤ (i : Int) + 1 := by omega
                    have hqi1 : (i : Int) + 1 ≤ (nt : Int) := by omega
                    have hqi2 : ((i : Int) + 1).toNat = i + 1 := by omega
                    have hqs1 : IntKind.i64.wrap ((nt : Int) - (i : Int)) = (nt : Int) - (i : Int) := IntWalk.i64_in _ (by omega)
                    have hqs2 : IntKind.i64.wrap ((nt : Int) - (i : Int) - 1) = (nt : Int) - (i : Int) - 1 := IntWalk.i64_in _ (by omega)
                    generalize mfill (csH RL) (tl.drop (i + 1)) 0 = M at *
                    clear hRX htX hnX hnX2 hrr
                    have hgki := Hgki.out
                    have hgk2 := Hgk2.out
                    have Hgg : Hid (gki - 1 + (k + 1) = n) := Lib.hid (by omega)
                    have hgki2 : gki - 1 < gki := by omega
                    by_cases hM : M = nt - (i + 1)
                    · have e1 : (((M : Nat) : Int) == (nt : Int) - (i : Int) - 1) = true := by rw [beq_iff_eq]; omega
                      have e2 : decide (((M : Nat) : Int) = (nt : Int) - (i : Int) - 1) = true := by rw [decide_eq_true_eq]; omega
                      have HP2 : Hid (takeP l tl i g k = true) := Lib.hid (by rw [HP.out, Hfb.out]; exact decide_eq_true hM)
                      have HG : Hid (greedy (csH l) (fullB l) (tl.drop (i + 1)) (g ++ [k]) = r) := Lib.hid (by
                        rw [← greedy_yes (by rw [HT.out]; exact hlt) (by rw [HL.out]; exact hltk) HP2.out Hall.out]; exact Hg.out)
                      have Hgl : Hid ((g ++ [k]).length = g.length + 1) := Lib.hid (by simp)
                      have HM := Lib.hid hM
                      clear hM hgki hgk2
                      rcases hAX with ⟨rfl, rfl, rfl, rfl⟩ | ⟨hc1, rfl, rfl, rfl⟩
                      all_goals
                        go_wp2_with fail
                        refine Hm.out.mono ?_
                        rintro e w4 ⟨rfl, b4⟩
                        have hb24 := hb23.trans (b4.mono hbs23)
                        have hs24 := hb24.size
                        have ho4 := ho2'.below b4
                        clear b4 Hm
                        go_wp2_with (at_builtin; refine wpList_app rfl _ _ 28 rfl 2 i0 _ 1 8 Try.underlying28 hi0 hz0 hz1 hz2 rfl (by omega) (by omega) w.heap.size _ _ _ _ rfl (ho4.alloc _) ⟨w4.heap.size, 0, none⟩ 1 1 [.int .i64 (k : Int)] rfl rfl (cell_one_new _ _ _) (by simp [Value.oneCell']) (by omega) (by simp; omega) ?_)
                        intro A5 c5 w5 ho5 hgA hbA hat
                        have ho6 : Own w5 w.heap.size 2 1 A5 (g ++ [k]).length c5 ((ci (g ++ [k])).map (Value.int .i64)) := by
                          rw [show ci (g ++ [k]) = ci g ++ [(k : Int)] by simp [ci], List.map_append, Hgl.out]; exact ho5
                        have hb6 : Below w.heap.size w w5 := (hb24.alloc hs24 _).trans hbA
                        clear ho5 hgA hbA hat ho4
                        have Hgk := Hgk.out
                        have Hgko := Hgko.out
                        go_wp2_with fail
                        go_roundg (gko - 1)
                        case rel => exact ⟨i + 1, A5, c5, g ++ [k], by omega, by omega, by go_num, by rw [Hgl.out]; omega, by rw [Hgl.out], ho6, HG.out, hb6⟩
                        case measure => omega
                    · have e1 : (((M : Nat) : Int) == (nt : Int) - (i : Int) - 1) = false := by rw [beq_eq_false_iff_ne]; omega
                      have e2 : decide (((M : Nat) : Int) = (nt : Int) - (i : Int) - 1) = false := by rw [decide_eq_false_iff_not]; omega
                      have HA : Hid (allTo (fun j => !takeP l tl i g j) (k + 1) = true) := Lib.hid (by rw [Has.out, Hall.out, HP.out, Hfb.out, decide_eq_false hM]; rfl)
                      clear hM hgki hgk2
                      rcases hAX with ⟨rfl, rfl, rfl, rfl⟩ | ⟨hc1, rfl, rfl, rfl⟩
                      all_goals
                        go_wp2_with fail
                        refine Hm.out.mono ?_
                        rintro e w4 ⟨rfl, b4⟩
                        have hb24 := hb23.trans (b4.mono hbs23)
                        have ho4 := ho2'.below b4
                        clear b4 Hm
                        go_wp2_with fail
                        go_roundg (gki - 1)
                        case rel => exact ⟨k + 1, by omega, Hgg.out, by go_num, rfl, HA.out, ho4, hb24⟩
                        case measure => have := Hgki.out; omega
            · have hke : n = k := by omega
              have HA : Hid (greedy (csH l) (fullB l) (tl.drop (i + 1)) g = r) := Lib.hid (by
                rw [← greedy_no (by rw [HT.out]; exact hlt) (by rw [HL.out, hke]; exact Hall.out)]; exact Hg.out)
              have hd : ¬ (k : Int) < (n : Int) := by omega
              have Hgk := Hgk.out
              have Hgko := Hgko.out
              clear hke
              go_wp2_with fail
              go_roundg (gko - 1)
              case rel => exact ⟨i + 1, A2, c2, g, by omega, by omega, by go_num, by omega, rfl, ho, HA.out, hb⟩
              case measure => omega
        · have hie : nt = i := by omega
          have Hf2 : Hid (g = r) := Lib.hid (by
            have := Hg.out
            rwa [List.drop_of_length_le (by rw [HT.out]; omega)] at this)
          have hd : ¬ (i : Int) < (nt : Int) := by omega
          clear hie
          go_wp2_with fail
          go_ret2
          exact ⟨A2, _, c2, by rw [Hr.out, Hf.out]; rfl, by omega, by rw [Hr.out, Hf.out]; simp only []; rw [← Hf2.out]; exact ho, hb⟩
end Go.Proofs.Ytcacmiafmanniaa
