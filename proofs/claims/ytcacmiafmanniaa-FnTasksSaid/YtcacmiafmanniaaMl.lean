/- Helpers: what the law of tasks says, in plain words: the quickest helpers, key helpers. -/
import Derived.Test.YtcacmiafmanniaaMh
import Derived.Test.YtcacmiafmanniaaMf
import Derived.Test.YtcacmiafmanniaaMg
import Derived.Test.YtcacmiafmanniaaHf
namespace Go.Proofs.Ytcacmiafmanniaa
open Go.RowKit
set_option maxRecDepth 100000
set_option linter.unusedVariables false
set_option linter.unusedSimpArgs false

/-! ### fillings -/
def okF (l : List HelperR) : List TaskR → List Nat → List Nat → Prop
  | [], _, cs => cs = []
  | t :: ts, g, cs => ∃ k cs', cs = k :: cs' ∧ k ∈ csH l t ∧ g.contains k = false ∧ okF l ts (g ++ [k]) cs'
def sumH (l : List HelperR) (cs : List Nat) : Nat := (cs.map (mnH l)).sum
def LeQ (q s : QS) : Prop := ∀ g m, s.best = some (g, m) → ∃ g' m', q.best = some (g', m') ∧ m' ≤ m
theorem LeQ.refl (s : QS) : LeQ s s := fun g m h => ⟨g, m, h, Nat.le_refl _⟩
theorem LeQ.trans {a b c : QS} (h : LeQ a b) (k : LeQ b c) : LeQ a c := fun g m e => by
  obtain ⟨g1, m1, e1, l1⟩ := k g m e
  obtain ⟨g2, m2, e2, l2⟩ := h g1 m1 e1
  exact ⟨g2, m2, e2, Nat.le_trans l2 l1⟩
theorem qput_le (s : QS) (g : List Nat) (d : Nat) : LeQ (qput s g d) s := by
  intro g0 m0 h
  unfold qput
  rw [h]
  simp only
  split
  · exact ⟨_, _, rfl, by omega⟩
  · exact ⟨_, _, h, Nat.le_refl _⟩
theorem qput_new (s : QS) (g : List Nat) (d : Nat) : ∃ g' m', (qput s g d).best = some (g', m') ∧ m' ≤ d := by
  unfold qput
  split
  · rename_i g0 m0 h
    split
    · exact ⟨_, _, rfl, Nat.le_refl _⟩
    · exact ⟨_, _, h, by omega⟩
  · exact ⟨_, _, rfl, Nat.le_refl _⟩
theorem qput_spent (s : QS) (g : List Nat) (d : Nat) : (qput s g d).spent = s.spent := by unfold qput; split; split <;> rfl; rfl
theorem foldQ_le (f : QS → Nat → QS) (h : ∀ s k, LeQ (f s k) s) : ∀ (ks : List Nat) (s : QS), LeQ (ks.foldl f s) s := by
  intro ks
  induction ks with
  | nil => intro s; exact LeQ.refl _
  | cons k ks ih => intro s; rw [List.foldl_cons]; exact (ih _).trans (h s k)
theorem qstep_le {l : List HelperR} {rec : List Nat → Nat → QS → QS} (hr : ∀ g m s, LeQ (rec g m s) s) (g : List Nat) (sum : Nat) (s : QS) (k : Nat) : LeQ (qstep l rec g sum s k) s := by
  unfold qstep
  split
  · exact LeQ.refl _
  · split
    · exact LeQ.refl _
    · split
      · exact fun g m h => ⟨g, m, h, Nat.le_refl _⟩
      · exact fun g m h => hr _ _ _ g m h
theorem qs_le (l : List HelperR) : ∀ (ts : List TaskR) (g : List Nat) (sum : Nat) (s : QS), LeQ (qs l ts g sum s) s := by
  intro ts
  induction ts with
  | nil => intro g sum s; rw [qs]; exact qput_le _ _ _
  | cons t ts ih => intro g sum s; rw [qs]; exact foldQ_le _ (fun s k => qstep_le ih g sum s k) _ _
theorem foldQ_not {l : List HelperR} {rec : List Nat → Nat → QS → QS} {g : List Nat} {sum : Nat} (ks : List Nat) (s : QS) (h : (ks.foldl (qstep l rec g sum) s).spent = false) : s.spent = false := by
  cases hs : s.spent with
  | false => rfl
  | true => rw [fold_spent l rec g sum ks s hs, hs] at h; cases h
/-- No filling is better than what a search that was not spent has found. -/
theorem qs_full (l : List HelperR) : ∀ (ts : List TaskR) (g : List Nat) (sum : Nat) (s : QS), (qs l ts g sum s).spent = false → ∀ cs, okF l ts g cs → ∃ g' m', (qs l ts g sum s).best = some (g', m') ∧ m' ≤ sum + sumH l cs := by
  intro ts
  induction ts with
  | nil =>
    intro g sum s _ cs h
    have h : cs = [] := h
    subst h
    rw [qs]
    exact qput_new _ _ _
  | cons t ts ih =>
    intro g sum s hsp cs h
    obtain ⟨k, cs', rfl, hk, hg, hok⟩ := h
    rw [qs] at hsp ⊢
    generalize csH l t = ks at hk hsp ⊢
    induction ks generalizing s with
    | nil => cases hk
    | cons a ks ihk =>
      rw [List.foldl_cons] at hsp ⊢
      rcases List.mem_cons.1 hk with rfl | hk
      · have h1 := foldQ_not _ _ hsp
        have : ∃ g' m', (qstep l (qs l ts) g sum s k).best = some (g', m') ∧ m' ≤ sum + sumH l (k :: cs') := by
          unfold qstep at h1 ⊢
          rw [if_neg (by rw [hg]; simp)] at h1 ⊢
          split at h1
          · rename_i hh; rw [hh] at h1; cases h1
          · rename_i hh
            rw [if_neg hh]
            split at h1
            · cases h1
            · rename_i hl
              rw [if_neg hl]
              obtain ⟨g', m', e, hle⟩ := ih _ _ _ h1 cs' hok
              exact ⟨g', m', e, by simp only [sumH, List.map_cons, List.sum_cons] at hle ⊢; omega⟩
        obtain ⟨g1, m1, e1, l1⟩ := this
        obtain ⟨g2, m2, e2, l2⟩ := foldQ_le _ (fun s k => qstep_le (qs_le l ts) g sum s k) ks _ g1 m1 e1
        exact ⟨g2, m2, e2, by omega⟩
      · exact ihk _ hk hsp
/-- What is found is a filling. -/
theorem qs_good {P : List Nat → Nat → Prop} (l : List HelperR) : ∀ (ts : List TaskR) (g : List Nat) (sum : Nat) (s : QS), (∀ g m, s.best = some (g, m) → P g m) →
    (∀ cs, okF l ts g cs → P (g ++ cs) (sum + sumH l cs)) → ∀ g' m', (qs l ts g sum s).best = some (g', m') → P g' m' := by
  intro ts
  induction ts with
  | nil =>
    intro g sum s hs hleaf g' m' h
    rw [qs] at h
    have hl := hleaf [] rfl
    rw [List.append_nil] at hl
    have hl : P g sum := by simpa [sumH] using hl
    unfold qput at h
    split at h
    · split at h
      · simp only [Option.some.injEq, Prod.mk.injEq] at h
        obtain ⟨rfl, rfl⟩ := h
        exact hl
      · exact hs _ _ h
    · simp only [Option.some.injEq, Prod.mk.injEq] at h
      obtain ⟨rfl, rfl⟩ := h
      exact hl
  | cons t ts ih =>
    intro g sum s hs hleaf
    rw [qs]
    have hmem : ∀ k ∈ csH l t, k ∈ csH l t := fun k h => h
    generalize hks : csH l t = ks at *
    have : ∀ ks' : List Nat, (∀ k ∈ ks', k ∈ ks) → ∀ s : QS, (∀ g m, s.best = some (g, m) → P g m) → ∀ g' m', (ks'.foldl (qstep l (qs l ts) g sum) s).best = some (g', m') → P g' m' := by
      intro ks'
      induction ks' with
      | nil => intro _ s hs g' m' h; exact hs _ _ h
      | cons a ks' ihk =>
        intro hm s hs
        rw [List.foldl_cons]
        refine ihk (fun k hk => hm k (by simp [hk])) _ ?_
        intro g' m' h
        unfold qstep at h
        split at h
        · exact hs _ _ h
        · rename_i hg
          split at h
          · exact hs _ _ h
          · split at h
            · exact hs _ _ h
            · refine ih _ _ _ ?_ ?_ g' m' h
              · exact hs
              · intro cs hcs
                have := hleaf (a :: cs) ⟨a, cs, rfl, by rw [hks]; exact hm a (by simp), by simpa using hg, hcs⟩
                rw [List.append_assoc]
                simp only [sumH, List.map_cons, List.sum_cons] at this ⊢
                rw [Nat.add_assoc]
                exact this
    exact this ks hmem s hs
theorem fillR_okF (l : List HelperR) : ∀ (ts : List TaskR) (g r : List Nat), fillR (csH l) ts g = some r → ∃ cs, r = g ++ cs ∧ okF l ts g cs := by
  intro ts
  induction ts with
  | nil => intro g r h; rw [fillR] at h; injection h with h; exact ⟨[], by simp [h], rfl⟩
  | cons t ts ih =>
    intro g r h
    rw [fillR] at h
    obtain ⟨k, hk, h⟩ := List.exists_of_findSome?_eq_some h
    cases hc : g.contains k with
    | true => rw [if_pos hc] at h; cases h
    | false =>
      rw [if_neg (by rw [hc]; simp)] at h
      obtain ⟨cs, h1, h2⟩ := ih _ _ h
      exact ⟨k :: cs, by rw [h1, List.append_assoc]; rfl, k, cs, rfl, hk, hc, h2⟩
theorem okF_fillR (l : List HelperR) : ∀ (ts : List TaskR) (g cs : List Nat), okF l ts g cs → (fillR (csH l) ts g).isSome = true := by
  intro ts
  induction ts with
  | nil => intro g cs _; rfl
  | cons t ts ih =>
    intro g cs h
    obtain ⟨k, cs', rfl, hk, hg, hok⟩ := h
    rw [fillR, List.isSome_findSome?, List.any_eq_true]
    exact ⟨k, hk, by rw [if_neg (by rw [hg]; simp)]; exact ih _ _ hok⟩
theorem okF_at (l : List HelperR) : ∀ (ts : List TaskR) (g cs : List Nat), okF l ts g cs → cs.length = ts.length ∧ ∀ i, i < cs.length → cs.getD i 0 ∈ csH l (TaskR.at_ ts i) ∧ cs.getD i 0 ∉ g ∧ cs.getD i 0 ∉ cs.take i := by
  intro ts
  induction ts with
  | nil => intro g cs h; have h : cs = [] := h; subst h; exact ⟨rfl, fun i hi => by simp at hi⟩
  | cons t ts ih =>
    intro g cs h
    obtain ⟨k, cs', rfl, hk, hg, hok⟩ := h
    obtain ⟨h1, h2⟩ := ih _ _ hok
    refine ⟨by simp [h1], fun i hi => ?_⟩
    cases i with
    | zero => exact ⟨by simpa [TaskR.at_] using hk, by simpa using hg, by simp⟩
    | succ i =>
      obtain ⟨a, b, c⟩ := h2 i (by simpa using hi)
      refine ⟨by simpa [TaskR.at_] using a, ?_, ?_⟩
      · intro hm; exact b (by simp; left; simpa using hm)
      · intro hm
        simp only [List.take_succ_cons, List.mem_cons] at hm
        rcases hm with hm | hm
        · exact b (by simp; right; simpa using hm)
        · exact c (by simpa using hm)
theorem csH_memL {l : List HelperR} {t : TaskR} {k : Nat} (h : k ∈ csH l t) : k < l.length ∧ canB (HelperR.at_ l k) t = true := by
  rw [csH_filter] at h
  simpa using h
theorem ci_nth (cs : List Nat) (i : Nat) : nth (ci cs) i = (cs.getD i 0 : Nat) := by
  unfold nth ci
  simp only [List.getD, List.getElem?_map]
  cases cs[i]? <;> rfl
theorem okF_keeps {l : List HelperR} {tl : List TaskR} {cs : List Nat} (hv : (helperBAll l && taskBAll tl) = true) (h : okF l tl [] cs) : rKeepsTasks l tl (ci cs) = true := by
  obtain ⟨h1, h2⟩ := okF_at l tl [] cs h
  unfold rKeepsTasks
  rw [hv, ci_len, h1, decide_eq_true rfl, Bool.and_true, Bool.true_and, allTo_true]
  intro i hi
  obtain ⟨a, _, c⟩ := h2 i (by omega)
  obtain ⟨b1, b2⟩ := csH_memL a
  unfold okAt
  rw [ci_nth, Int.toNat_natCast, b2, inB_true.2 ⟨by omega, by omega⟩]
  have : ((ci cs).take i).any (fun y => ((cs.getD i 0 : Nat) : Int) == y) = false := by
    have e : (ci cs).take i = ci (cs.take i) := by unfold ci; rw [List.map_take]
    rw [e, ci_any]
    simpa using c
  rw [this]
  rfl
/-- What QuickestFill and FillTasks say together. -/
structure QuickP (l : List HelperR) (tl : List TaskR) (r : List Int × Int × Int) : Prop where
  no : r.2.2 ≠ 0 → r.1 = [] ∧ r.2.1 = 0
  nf : r.2.2 = 3 → (rFillTasks l tl).2 ≠ 0
  ok : r.2.2 = 0 → (helperBAll l && taskBAll tl) = true ∧ ∃ cs r2, r.1 = ci cs ∧ okF l tl [] cs ∧ r.2.1 = (sumH l cs : Nat) ∧ rFillTasks l tl = (ci r2, 0) ∧ okF l tl [] r2 ∧ sumH l cs ≤ sumH l r2
theorem quickP (l : List HelperR) (tl : List TaskR) (b : Int) : QuickP l tl (rQuickestFill l tl b) := by
  unfold rQuickestFill
  cases hv : (helperBAll l && taskBAll tl) with
  | false => exact ⟨fun _ => ⟨rfl, rfl⟩, fun e => by simp at e, fun e => by simp at e⟩
  | true =>
    cases hb : inB b 1 20000 with
    | false => exact ⟨fun _ => ⟨rfl, rfl⟩, fun e => by simp at e, fun e => by simp at e⟩
    | true =>
      simp only [if_true]
      cases hsp : (qs l tl [] 0 ⟨b.toNat, false, none⟩).spent with
      | true => exact ⟨fun _ => ⟨rfl, rfl⟩, fun e => by simp at e, fun e => by simp at e⟩
      | false =>
        have hfull := qs_full l tl [] 0 ⟨b.toNat, false, none⟩ hsp
        cases hbe : (qs l tl [] 0 ⟨b.toNat, false, none⟩).best with
        | none =>
          refine ⟨fun _ => ⟨rfl, rfl⟩, fun _ => ?_, fun e => by simp at e⟩
          unfold rFillTasks
          rw [hv]
          simp only [if_true]
          cases hf : fillR (csH l) tl [] with
          | none => simp
          | some r =>
            obtain ⟨cs, _, hok⟩ := fillR_okF l tl [] r hf
            obtain ⟨g', m', e, _⟩ := hfull cs hok
            rw [hbe] at e
            cases e
        | some p =>
          obtain ⟨g, m⟩ := p
          refine ⟨fun e => absurd rfl e, fun e => by simp at e, fun _ => ⟨hv, ?_⟩⟩
          obtain ⟨h1, h2⟩ := qs_good (P := fun g m => okF l tl [] g ∧ m = sumH l g) l tl [] 0 ⟨b.toNat, false, none⟩ (fun g m e => by cases e) (fun cs h => ⟨by simpa using h, by simp⟩) g m hbe
          obtain ⟨r, hr⟩ := Option.isSome_iff_exists.1 (okF_fillR l tl [] g h1)
          obtain ⟨r2, hr2, hok2⟩ := fillR_okF l tl [] r hr
          obtain ⟨g', m', e, hle⟩ := hfull r2 hok2
          rw [hbe] at e
          simp only [Option.some.injEq, Prod.mk.injEq] at e
          obtain ⟨rfl, rfl⟩ := e
          refine ⟨g, r2, rfl, h1, (by show (m : Int) = _; rw [h2]), ?_, hok2, by rw [← h2]; simpa using hle⟩
          unfold rFillTasks
          rw [hv, hr]
          simp only [if_true]
          rw [hr2]; rfl

/-! ### one helper less -/
theorem szM_drop {t : Nat} {g : Nat → Option Nat} {k : Nat} : (∀ i j, i < t → j < t → g i = some k → g j = some k → i = j) → szM t g ≤ szM t (fun i => if g i = some k then none else g i) + 1 := by
  have key : ∀ t, (∀ i j, i < t → j < t → g i = some k → g j = some k → i = j) → (szM t g = szM t (fun i => if g i = some k then none else g i) ∧ ∀ i, i < t → g i ≠ some k) ∨ szM t g = szM t (fun i => if g i = some k then none else g i) + 1 := by
    intro t
    induction t with
    | zero => intro _; exact .inl ⟨rfl, fun i hi => by omega⟩
    | succ t ih =>
      intro h
      have h' := ih (fun i j hi hj => h i j (by omega) (by omega))
      rw [szM_succ, szM_succ]
      by_cases hg : g t = some k
      · rcases h' with ⟨e, hn⟩ | e
        · right
          rw [e]; simp [hg]
        · exfalso
          have : ∀ i, i < t → g i ≠ some k := fun i hi e2 => by have := h i t (by omega) (by omega) e2 hg; omega
          have e3 : szM t g = szM t (fun i => if g i = some k then none else g i) := szM_congr fun i hi => by simp [this i hi]
          omega
      · rcases h' with ⟨e, hn⟩ | e
        · left
          refine ⟨by rw [e]; simp [hg], fun i hi => ?_⟩
          by_cases hit : i = t
          · rw [hit]; exact hg
          · exact hn i (by omega)
        · right
          rw [e]; simp [hg]; omega
  intro h
  rcases key t h with ⟨e, _⟩ | e <;> omega
theorem drop_one {l : List HelperR} {tl : List TaskR} {k : Nat} (hk : k < l.length) : mfill (csH l) tl 0 ≤ mfill (csH (l.take k ++ l.drop (k + 1))) tl 0 + 1 := by
  have h1 := kuhn_opt (cB l tl) l.length (seen0 l.length (k : Int)) (seen0_len _ _) tl.length
  rw [but_eq hk] at h1
  have h0 := kuhn_opt (cB l tl) l.length (seen0 l.length (-1)) (seen0_len _ _) tl.length
  rw [most_eq] at h0
  obtain ⟨g, hg, hs⟩ := h0.has
  have hd := szM_drop (t := tl.length) (g := g) (k := k) (fun i j hi hj e1 e2 => hg.inj i j hi hj k e1 e2)
  have ht := h1.top (fun i => if g i = some k then none else g i) ⟨fun i hi h e => ?_, fun i j hi hj h e1 e2 => ?_⟩
  · omega
  · by_cases he : g i = some k
    · simp [he] at e
    · simp only [he, if_false] at e
      obtain ⟨⟨a, _⟩, c⟩ := hg.can i hi h e
      refine ⟨?_, c⟩
      have := (seen0_pos (n := l.length) (h := h) hk).2 ⟨a, fun e3 => he (by rw [e, e3])⟩
      exact ⟨a, this⟩
  · by_cases he : g i = some k
    · simp [he] at e1
    · by_cases he2 : g j = some k
      · simp [he2] at e2
      · simp only [he, he2, if_false] at e1 e2
        exact hg.inj i j hi hj h e1 e2
theorem sLt_trans {a b c : ByteArray} (h : sLt a b = true) (k : sLt b c = true) : sLt a c = true := bytesLess_trans _ _ _ h k
theorem helperBAt_of {l : List HelperR} (h : helperBAll l = true) {k : Nat} (hk : k < l.length) : helperB (HelperR.at_ l k) = true := by
  unfold helperBAll at h
  rw [Bool.and_eq_true] at h
  have := allTo_true.1 h.1 k hk
  unfold helperBAt at this
  rw [Bool.and_eq_true] at this
  exact this.1
theorem but_valid {l : List HelperR} (h : helperBAll l = true) {k : Nat} (hk : k < l.length) : helperBAll (l.take k ++ l.drop (k + 1)) = true := by
  have hl := helperB_len h
  unfold helperBAll
  rw [but_len hk, decide_eq_true (by omega : l.length - 1 ≤ 10), Bool.and_true, allTo_true]
  intro j hj
  unfold helperBAt
  rw [but_at hk, but_at hk]
  have hj2 : (if j < k then j else j + 1) < l.length := by split <;> omega
  rw [helperBAt_of h hj2, Bool.true_and]
  by_cases h0 : j = 0
  · simp [h0]
  · rw [decide_eq_false h0, Bool.false_or]
    have hd : ∃ d, (if j < k then j else j + 1) = (if j - 1 < k then j - 1 else j - 1 + 1) + d + 1 := ⟨(if j < k then j else j + 1) - (if j - 1 < k then j - 1 else j - 1 + 1) - 1, by split <;> split <;> omega⟩
    obtain ⟨d, hd⟩ := hd
    rw [hd]
    exact helpers_lt h d _ (by omega)
theorem without_at {l : List HelperR} (h : helperBAll l = true) {k : Nat} (hk : k < l.length) : rWithoutHelper l (HelperR.at_ l k).Id = (l.take k ++ l.drop (k + 1), 0) := by
  have hself : eqH l (HelperR.at_ l k).Id k = true := by unfold eqH; exact beq_self_eq_true _
  have hne : ∀ j, j < k → eqH l (HelperR.at_ l k).Id j = false := by
    intro j hj
    cases hp : eqH l (HelperR.at_ l k).Id j with
    | false => rfl
    | true => rw [one_onlyH h hj hk hp] at hself; cases hself
  unfold rWithoutHelper
  rw [h]
  have : allTo (fun j => !eqH l (HelperR.at_ l k).Id j) l.length = false := allTo_false hk (by rw [hself]; rfl)
  rw [this]
  have := keepTo_one h hk hself hne (l.length - (k + 1)) (by omega)
  rw [show k + 1 + (l.length - (k + 1)) = l.length by omega, List.take_of_length_le (l := l.drop (k + 1)) (by rw [List.length_drop]; omega)] at this
  simp [this]
theorem ids_one {l : List HelperR} (h : helperBAll l = true) {i j : Nat} (hi : i < l.length) (hj : j < l.length) (e : (HelperR.at_ l i).Id = (HelperR.at_ l j).Id) : i = j := by
  have hs : ∀ k, eqH l (HelperR.at_ l k).Id k = true := fun k => by unfold eqH; exact beq_self_eq_true _
  rcases Nat.lt_trichotomy i j with hlt | heq | hlt
  · have := one_onlyH h hlt hj (hs i)
    rw [e, hs j] at this
    cases this
  · exact heq
  · have := one_onlyH h hlt hi (hs j)
    rw [← e, hs i] at this
    cases this
theorem keys_mem {l : List HelperR} {tl : List TaskR} (h : helperBAll l = true) {k : Nat} (hk : k < l.length) : ∀ n, n ≤ l.length → ((HelperR.at_ l k).Id ∈ keysTo l tl n ↔ k < n ∧ mfill (csH (l.take k ++ l.drop (k + 1))) tl 0 < mfill (csH l) tl 0) := by
  intro n
  induction n with
  | zero => intro _; simp [keysTo]
  | succ n ih =>
    intro hn
    rw [keysTo_succ, List.mem_append, ih (by omega)]
    constructor
    · rintro (⟨a, b⟩ | hm)
      · exact ⟨by omega, b⟩
      · split at hm
        · rename_i hlt
          rw [List.mem_singleton] at hm
          have := ids_one h hk (by omega) hm
          subst this
          exact ⟨by omega, hlt⟩
        · cases hm
    · rintro ⟨a, b⟩
      by_cases hkn : k < n
      · exact .inl ⟨hkn, b⟩
      · have : k = n := by omega
        subst this
        right
        rw [if_pos b]
        simp
end Go.Proofs.Ytcacmiafmanniaa
