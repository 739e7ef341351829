/- Words for memory that all walks of this seat share: a slice that reads as a list, a slice in memory of the call's own, what a step leaves alone; small facts on lists of numbers. No function of the program is named here. -/
import Derived.WalkKit
import Derived.WalkSpells
import Derived.WalkLawsBesides
import Derived.Deep.QuietTactic
import Derived.BigQuiet
import Derived.Lib.Hide
import Derived.Deep.AppendLies
import Derived.Deep.Draws
import Derived.Deep.LoopGhost
import Derived.Maps.AppendAt
namespace Go.Proofs.YtickepianllblaaGreatDoor
open Go.RowKit
set_option maxRecDepth 100000
set_option linter.unusedVariables false

/-! ### addresses, slices that read as a list -/
theorem block_of_add (a : Addr) (n : Nat) : (a.add n).block = a.block := by unfold Addr.add; split <;> rfl
theorem add_of_add (a : Addr) (i j : Nat) : (a.add i).add j = a.add (i + j) := by
  unfold Addr.add
  by_cases hi : i = 0 <;> by_cases hj : j = 0 <;> simp [hi, hj, Nat.add_assoc]

theorem addr_add_zero (a : Addr) : a.add 0 = a := by simp [Addr.add]

/-- The slice value with address A and length n reads as the cells xs (size cells an element), and lies below block B. -/
def Reads (w : World) (B size : Nat) (A : Option Addr) (n : Nat) (xs : List Value) : Prop :=
  xs.length = n * size ∧ (0 < n → ∃ ad, A = some ad ∧ ad.block < B ∧ ∀ j u, xs[j]? = some u → w.cell? (ad.add j) = some u)

/-- A slice in memory of the call's own: block B or above, not frozen. -/
def Own (w : World) (B e size : Nat) (A : Option Addr) (n c : Nat) (xs : List Value) : Prop := w.ownsRow B e size (.slice A n c) n xs

section
variable {w w' : World} {B B' e size n c k : Nat} {A : Option Addr} {xs : List Value}
theorem Reads.none_ : Reads w B size A 0 [] := ⟨by simp, fun h => absurd h (by omega)⟩
theorem Reads.at_ (h : Reads w B 1 A n xs) (hk : k < n) : ∃ ad u, A = some ad ∧ ad.block < B ∧ xs[k]? = some u ∧ w.cell? (ad.add k) = some u := by
  obtain ⟨ad, e, hb, hc⟩ := h.2 (by omega)
  have hl : k < xs.length := by have := h.1; omega
  exact ⟨ad, xs[k], e, hb, List.getElem?_eq_getElem hl, hc k _ (List.getElem?_eq_getElem hl)⟩
theorem Reads.keep (h : Reads w B size A n xs) (hk : ∀ p : Addr, p.block < B → w'.cell? p = w.cell? p) : Reads w' B size A n xs :=
  ⟨h.1, fun hn => by
    obtain ⟨ad, e, hb, hc⟩ := h.2 hn
    exact ⟨ad, e, hb, fun j u hu => (hk _ (by rw [block_of_add]; exact hb)).trans (hc j u hu)⟩⟩
theorem Reads.more (h : Reads w B size A n xs) (hB : B ≤ B') : Reads w B' size A n xs :=
  ⟨h.1, fun hn => by
    obtain ⟨ad, e, hb, hc⟩ := h.2 hn
    exact ⟨ad, e, by omega, hc⟩⟩
theorem Reads.below (h : Reads w B size A n xs) (hb : Below B' w w') (hB : B ≤ B') : Reads w' B size A n xs := h.keep fun _ hp => hb.cell (by omega)
theorem Reads.drewN (h : Reads w B size A n xs) (k : Nat) : Reads (w.drewN k) B size A n xs := h
theorem Reads.alloc (h : Reads w B size A n xs) (hB : B ≤ w.heap.size) (o : Obj) : Reads (w.alloc o) B size A n xs := h.keep fun p hp => World.cell?_alloc_lt w o p (by omega)
theorem Reads.grown {g : Nat} (h : Reads w B size A n xs) (hg : w.grownBy w' (some g)) (hB : B ≤ w.heap.size) (hne : B ≤ g) : Reads w' B size A n xs :=
  h.keep fun p hp => World.cell?_of_block (hg.block p.block (by omega) (fun e => by injection e; omega))

theorem Own.reads (h : Own w B e size A n c xs) : Reads w w.heap.size size A n xs := by
  refine ⟨h.1, fun hn => ?_⟩
  rcases h.2 with ⟨hv, h0⟩ | ⟨g, cap, cur, hv, _, hgg, _⟩
  · omega
  · have hA : A = some ⟨g, 0, none⟩ := by injection hv
    subst hA
    exact ⟨_, rfl, (Array.getElem?_eq_some_iff.1 hgg).1, World.ownsRow.cells h (g := g) rfl⟩
theorem Own.below (h : Own w B e size A n c xs) (hb : Below w.heap.size w w') : Own w' B e size A n c xs := by
  refine ⟨h.1, ?_⟩
  rcases h.2 with hv | ⟨g, cap, cur, hv, hB, hgg, r⟩
  · exact .inl hv
  · exact .inr ⟨g, cap, cur, hv, hB, by rw [hb.block g (Array.getElem?_eq_some_iff.1 hgg).1]; exact hgg, r⟩
theorem Own.block_lt (h : Own w B e size A n c xs) : ∀ a, A = some a → a.off = 0 ∧ a.spot = none ∧ B ≤ a.block ∧ a.block < w.heap.size := by
  intro a ha
  subst ha
  rcases h.2 with ⟨hv, h0⟩ | ⟨g, cap, cur, hv, hB, hgg, _⟩
  · cases hv
  · injection hv with hA
    injection hA with hA
    subst hA
    exact ⟨rfl, rfl, hB, (Array.getElem?_eq_some_iff.1 hgg).1⟩
theorem Own.none_n (h : Own w B e size none n c xs) : n = 0 := by
  rcases h.2 with ⟨_, h0⟩ | ⟨g, cap, cur, hv, _⟩
  · exact h0
  · cases hv
theorem Own.grown {a : Addr} (h : Own w B e size A n c xs) (hg : w.grownBy w' (some a.block)) (hne : ∀ x, A = some x → x.block ≠ a.block) : Own w' B e size A n c xs :=
  World.ownsRow.kept (h : w.ownsRow B e size (.slice A n c) n xs) hg (by
    cases A with
    | none => exact .inl rfl
    | some x => exact .inr (by simpa [Value.ownBlock] using hne x rfl))
theorem Own.mono (h : Own w B e size A n c xs) (hB : B' ≤ B) : Own w B' e size A n c xs := by
  refine ⟨h.1, ?_⟩
  rcases h.2 with hv | ⟨g, cap, cur, hv, hb, r⟩
  · exact .inl hv
  · exact .inr ⟨g, cap, cur, hv, by omega, r⟩
theorem Own.stored {g j : Nat} (h : Own w B e size (some ⟨g, 0, none⟩) n c xs) (u : Value) :
    Own (w.setCell ⟨g, j, none⟩ u) B e size (some ⟨g, 0, none⟩) n c (xs.set j u) ∧ w.grownBy (w.setCell ⟨g, j, none⟩ u) (some g) := World.ownsRow.stored h j u
theorem Own.cellAt {g j : Nat} (h : Own w B e size (some ⟨g, 0, none⟩) n c xs) (hj : j < n * size) : w.cell? ⟨g, j, none⟩ = xs[j]? := World.ownsRow.cellAt h j hj
theorem Own.frozenAt {g j : Nat} (h : Own w B e size (some ⟨g, 0, none⟩) n c xs) : w.frozen? ⟨g, j, none⟩ = false := World.ownsRow.frozenAt h j
theorem Own.len (h : Own w B e size A n c xs) : xs.length = n * size := h.1
end

theorem Own.alloc {w : World} {B e size n c : Nat} {A : Option Addr} {xs : List Value} (h : Own w B e size A n c xs) (o : Obj) : Own (w.alloc o) B e size A n c xs := World.ownsRow.alloc h o
theorem Own.nil (w : World) (B e size : Nat) : Own w B e size none 0 0 [] := World.ownsRow_nil w B e size
theorem Own.empty (w : World) (B e size : Nat) (hB : B ≤ w.heap.size) : Own (w.alloc (.cells #[] e)) B e size (some ⟨w.heap.size, 0, none⟩) 0 0 [] :=
  World.ownsRow_made w #[] 0 hB (by simp only [maxLen]; omega) (by simp)
theorem Own.cap {w : World} {B e size n c : Nat} {A : Option Addr} {xs : List Value} (h : Own w B e size A n c xs) : n ≤ c := by
  rcases h.2 with ⟨hv, h0⟩ | ⟨g, cap, cur, hv, _, _, hnc, _⟩
  · injection hv; omega
  · injection hv with _ _ h3; omega
theorem below_of_grown {w w' : World} {B : Nat} {A : Option Addr} (hg : w.grownBy w' (A.map (·.block))) (hB : B ≤ w.heap.size) (hA : ∀ a, A = some a → B ≤ a.block) : Below B w w' :=
  (Below.refl _ _).grown hg hB (fun k hk => by
    cases A with
    | none => cases hk
    | some a => have hk : a.block = k := by simpa using hk
                have := hA a rfl; omega)

/-- append onto a slice of the call's own. -/
theorem wpList_app {P : Program} {w : World} {ops : Array Oper} {rest : List Oper} {o : Oper} {a : Act} {Q : Exit → Act → World → Prop} (hgd : o.guard = none) (s x : Operand) (t : TypeId)
    (ho : o.op = .call { callee := .builtin .append, args := #[s, x], argTypes := #[t, t] })
    (e : TypeId) (i : TypeInfo) (z : Value) (size bytes : Nat) (ht : P.underlying t = some (.slice e)) (hi : P.info? e = some i) (hz : i.zero = some z)
    (hsize : i.size = size) (hby : i.bytes = bytes) (hzs : z.cells.size = size) (hsz : 0 < size) (hb128 : bytes ≤ 128)
    (B n c : Nat) (A : Option Addr) (xs : List Value) (hs : a.eval s = .slice A n c) (hown : Own w B e size A n c xs)
    (ad : Addr) (m c' : Nat) (news : List Value) (hx : a.eval x = .slice (some ad) m c') (hl : news.length = m * size) (hnews : ∀ j u, news[j]? = some u → w.cell? (ad.add j) = some u) (h1 : ∀ u ∈ news, u.oneCell' = true)
    (hnm : n + m ≤ 1099511627776) (hB : B ≤ w.heap.size)
    (h : ∀ A' c'' w', Own w' B e size A' (n + m) c'' (xs ++ news) → w.grownBy w' (A.map (·.block)) → Below B w w' → (A'.map (·.block) = A.map (·.block) ∨ A'.map (·.block) = some w.heap.size) →
      wpList P ops Q rest (a.put o.dst (.slice A' (n + m) c'')) w') : wpList P ops Q (o :: rest) a w := by
  have hbytes : (n + m) * bytes ≤ 140737488355328 := by
    have h1 : (n + m) * bytes ≤ 1099511627776 * 128 := Nat.mul_le_mul hnm hb128
    omega
  refine wpList_append_own_at w hgd s x t ho B e i z size bytes ht hi hz hsize hby hzs hsz _ n xs hs hown ad m c' news hx hl hnews h1 (by simp only [maxLen]; omega) hbytes hB ?_
  intro v' w' hown' hg _ hat
  have hob : ∀ (X : Option Addr) (p q : Nat), Value.ownBlock (.slice X p q) = X.map (·.block) := by intro X p q; cases X <;> rfl
  have hv : ∃ A' c'', v' = .slice A' (n + m) c'' := by
    rcases hown'.2 with ⟨rfl, h0⟩ | ⟨g, cap, cur, rfl, _⟩
    · exact ⟨none, 0, by rw [h0]⟩
    · exact ⟨_, _, rfl⟩
  obtain ⟨A', c'', rfl⟩ := hv
  rw [hob] at hg hat
  rw [hob] at hat
  exact h A' c'' w' hown' hg (below_of_grown hg hB fun y hy => (hown.block_lt y hy).2.2.1) hat

theorem Own.max {w : World} {B e size n c : Nat} {A : Option Addr} {xs : List Value} (h : Own w B e size A n c xs) : n ≤ maxLen := by
  rcases h.2 with ⟨hv, h0⟩ | ⟨g, cap, cur, hv, _, _, hnc, hm, _⟩
  · simp only [maxLen]; omega
  · omega

/-- The same, as one step of a region that draws its order. -/
theorem step_app {P : Program} (w : World) {ops : Array Oper} {o : Oper} {a : Act} {K : Act → World → Prop} {Q : Exit → Act → World → Prop} {E : Prop} (hgd : o.guard = none) (s x : Operand) (t : TypeId)
    (ho : o.op = .call { callee := .builtin .append, args := #[s, x], argTypes := #[t, t] })
    (e : TypeId) (i : TypeInfo) (z : Value) (size bytes : Nat) (ht : P.underlying t = some (.slice e)) (hi : P.info? e = some i) (hz : i.zero = some z)
    (hsize : i.size = size) (hby : i.bytes = bytes) (hzs : z.cells.size = size) (hsz : 0 < size) (hb128 : bytes ≤ 128)
    (B n c : Nat) (A : Option Addr) (xs : List Value) (hs : a.eval s = .slice A n c) (hown : Own w B e size A n c xs)
    (ad : Addr) (m c' : Nat) (news : List Value) (hx : a.eval x = .slice (some ad) m c') (hl : news.length = m * size) (hnews : ∀ j u, news[j]? = some u → w.cell? (ad.add j) = some u) (h1 : ∀ u ∈ news, u.oneCell' = true)
    (hnm : n + m ≤ 1099511627776) (hB : B ≤ w.heap.size)
    (h : ∀ A' c'' w', Own w' B e size A' (n + m) c'' (xs ++ news) → w.grownBy w' (A.map (·.block)) → Below B w w' → (A'.map (·.block) = A.map (·.block) ∨ A'.map (·.block) = some w.heap.size) →
      K (a.put o.dst (.slice A' (n + m) c'')) w') : if Region.wanted o (yielded ops a.tmps) = true then Oper.wp P o a w K Q else E := by
  have hw : Region.wanted o (yielded ops a.tmps) = true := by simp [Region.wanted, hgd]
  rw [if_pos hw]
  have hbytes : (n + m) * bytes ≤ 140737488355328 := by
    have h1 : (n + m) * bytes ≤ 1099511627776 * 128 := Nat.mul_le_mul hnm hb128
    omega
  obtain ⟨v', w', hrun, hown', hg, _, hat⟩ := run_append_own_at (P := P) w B t o.type e i z size bytes ht hi hz hsize hby hzs hsz _ n xs hown ad m c' news hl hnews h1 (by simp only [maxLen]; omega) hbytes hB
  have hob : ∀ (X : Option Addr) (p q : Nat), Value.ownBlock (.slice X p q) = X.map (·.block) := by intro X p q; cases X <;> rfl
  have hv : ∃ A' c'', v' = .slice A' (n + m) c'' := by
    rcases hown'.2 with ⟨rfl, h0⟩ | ⟨g, cap, cur, rfl, _⟩
    · exact ⟨none, 0, by rw [h0]⟩
    · exact ⟨_, _, rfl⟩
  obtain ⟨A', c'', rfl⟩ := hv
  rw [hob] at hg hat
  rw [hob] at hat
  unfold Oper.wp execOp
  simp only [ho, resolve, invoke, builtin, Sem.run_bind, Sem.run_pure, Result.andThen_ok, List.map_toArray, List.map_cons, List.map_nil, hs, hx, hrun]
  exact h A' c'' w' hown' hg (below_of_grown hg hB fun y hy => (hown.block_lt y hy).2.2.1) hat

theorem Own.drew {w : World} {B e size n c : Nat} {A : Option Addr} {xs : List Value} (h : Own w B e size A n c xs) : Own w.drew B e size A n c xs := h
theorem cell_one_drew (w : World) (x : Value) (t : TypeId) : ∀ j u, [x][j]? = some u → (w.alloc (.cells #[x] t)).drew.cell? ((⟨w.heap.size, 0, none⟩ : Addr).add j) = some u := cell_one_new w x t

/-- Of what was there only the block at A may have changed. -/
structure Touch (w w' : World) (A : Option Addr) : Prop where
  os : w'.os = w.os
  tape : w'.tape = w.tape
  output : w'.output = w.output
  size : w.heap.size ≤ w'.heap.size
  block : ∀ k, k < w.heap.size → (∀ a, A = some a → a.block ≠ k) → w'.heap[k]? = w.heap[k]?
/-- Two slices never lie in one block. -/
def Apart (A A' : Option Addr) : Prop := ∀ a a', A = some a → A' = some a' → a.block ≠ a'.block
theorem Touch.refl (w : World) (A : Option Addr) : Touch w w A := ⟨rfl, rfl, rfl, Nat.le_refl _, fun _ _ _ => rfl⟩
theorem Touch.grown {w w' w'' : World} {g : Nat} {ad : Addr} (h : Touch w w' (some ad)) (hg : w'.grownBy w'' (some g)) (he : ad.block = g) : Touch w w'' (some ad) :=
  ⟨hg.os.trans h.os, hg.tape.trans h.tape, hg.output.trans h.output, Nat.le_trans h.size hg.size,
    fun k hk hn => (hg.block k (Nat.lt_of_lt_of_le hk h.size) (fun e => by injection e with e; exact hn ad rfl (by omega))).trans (h.block k hk hn)⟩
theorem Touch.below {w w' : World} {A : Option Addr} (h : Touch w w' A) {B : Nat} (hA : ∀ a, A = some a → B ≤ a.block) (hB : B ≤ w.heap.size) : Below B w w' :=
  ⟨h.os, h.tape, h.output, h.size, fun k hk => h.block k (by omega) (fun a e => by have := hA a e; omega)⟩
theorem Own.touch {w w' : World} {B e size n c : Nat} {A A1 : Option Addr} {xs : List Value} (h : Own w B e size A n c xs) (t : Touch w w' A1) (ha : Apart A1 A) : Own w' B e size A n c xs := by
  refine ⟨h.1, ?_⟩
  rcases h.2 with hv | ⟨g, cap, cur, hv, hB, hgg, r⟩
  · exact .inl hv
  · refine .inr ⟨g, cap, cur, hv, hB, ?_, r⟩
    have hA : A = some ⟨g, 0, none⟩ := by injection hv
    rw [t.block g (Array.getElem?_eq_some_iff.1 hgg).1 (fun a e => ha a _ e hA)]
    exact hgg
theorem apart_of {w w' : World} {B B' e e' s s' n n' c c' : Nat} {A A' : Option Addr} {xs ys : List Value} (h : Own w B e s A n c xs) (h' : Own w' B' e' s' A' n' c' ys) (hB : w.heap.size ≤ B') : Apart A A' := by
  intro a a' ha ha'
  have h1 := (h.block_lt a ha).2.2.2
  have h2 := (h'.block_lt a' ha').2.2.1
  omega
theorem Apart.symm {A A' : Option Addr} (h : Apart A A') : Apart A' A := fun a a' ha ha' e => h a' a ha' ha e.symm
theorem Own.from {w : World} {B e size n c : Nat} {A : Option Addr} {xs : List Value} (h : Own w B e size A n c xs) : ∀ a, A = some a → B ≤ a.block := fun a ha => (h.block_lt a ha).2.2.1

theorem below_drewN {B : Nat} {a w : World} (h : Below B a w) (n : Nat) : Below B a (w.drewN n) := ⟨h.os, h.tape, h.output, h.size, h.block⟩
theorem below_of_draws {B : Nat} {w w' : World} (h : ∃ n, w' = w.drewN n) : Below B w w' := by
  obtain ⟨n, rfl⟩ := h; exact below_drewN (Below.refl _ _) n
theorem bcell {W w1 : World} (hb : Below W.heap.size W w1) : (∀ b o, b < W.heap.size → w1.cell? ⟨b, o, none⟩ = W.cell? ⟨b, o, none⟩) ∧ (∀ b o, b < W.heap.size → w1.frozen? ⟨b, o, none⟩ = W.frozen? ⟨b, o, none⟩) :=
  ⟨fun b o h => hb.cell (p := ⟨b, o, none⟩) h, fun b o h => hb.frozen (p := ⟨b, o, none⟩) h⟩

theorem calls_below {P : Program} {f : FuncId} {args : Array Value} {w : World} {R : Ending → Prop} (h : Calls P f args w fun e w' => R e ∧ w = w') : Calls P f args w fun e w' => R e ∧ Below w.heap.size w w' :=
  h.mono fun _ _ ⟨he, hw⟩ => ⟨he, hw ▸ Below.refl _ _⟩
theorem calls_draws {P : Program} {f : FuncId} {args : Array Value} {w : World} {R : Ending → Prop} (h : Calls P f args w fun e w' => R e ∧ ∃ d, w' = w.drewN d) : Calls P f args w fun e w' => R e ∧ Below w.heap.size w w' :=
  h.mono fun _ _ ⟨he, hw⟩ => ⟨he, below_of_draws hw⟩

/-- A callee that leaves the world alone, or only draws, inside a region that draws its order. -/
theorem quiet_left {P : Program} {f : FuncId} {args : Array Value} {w : World} {n : Nat} {v : Value}
    (h : Calls P f args (w.drewN n) fun e w' => e = .returned v ∧ w.drewN n = w') : Calls P f args (w.drewN n) fun e w'' => e = .returned v ∧ ∃ m, w'' = w.drewN m :=
  h.mono fun _ _ ⟨he, hm⟩ => ⟨he, n, hm.symm⟩
theorem quiet_draw {P : Program} {f : FuncId} {args : Array Value} {w : World} {n : Nat} {v : Value}
    (h : Calls P f args (w.drewN n) fun e w' => e = .returned v ∧ ∃ m, w' = (w.drewN n).drewN m) : Calls P f args (w.drewN n) fun e w'' => e = .returned v ∧ ∃ m, w'' = w.drewN m :=
  h.mono fun _ _ ⟨he, m, hm⟩ => ⟨he, n + m, by rw [hm, World.drewN_drewN]⟩
theorem quiet_add_left {P : Program} {f : FuncId} {args : Array Value} {w : World} {a n : Nat} {v : Value}
    (h : Calls P f args (w.drewN (a + n)) fun e w' => e = .returned v ∧ w.drewN (a + n) = w') :
    Calls P f args (w.drewN (a + n)) fun e w'' => e = .returned v ∧ ∃ m, w'' = w.drewN (a + m) :=
  h.mono fun _ _ ⟨he, hm⟩ => ⟨he, n, hm.symm⟩
theorem quiet_add_draw {P : Program} {f : FuncId} {args : Array Value} {w : World} {a n : Nat} {v : Value}
    (h : Calls P f args (w.drewN (a + n)) fun e w' => e = .returned v ∧ ∃ m, w' = (w.drewN (a + n)).drewN m) :
    Calls P f args (w.drewN (a + n)) fun e w'' => e = .returned v ∧ ∃ m, w'' = w.drewN (a + m) :=
  h.mono fun _ _ ⟨he, m, hm⟩ => ⟨he, n + m, by rw [hm, World.drewN_drewN, Nat.add_assoc]⟩

/-! ### lists of numbers -/
/-- Number k of a list; 0 behind its end. -/
def nth (zs : List Int) (k : Nat) : Int := zs.getD k 0
theorem nth_eq {zs : List Int} {k : Nat} (h : k < zs.length) : nth zs k = zs[k] := by simp [nth, List.getD, List.getElem?_eq_getElem h]
theorem getElem?_nth {zs : List Int} {k : Nat} (h : k < zs.length) : zs[k]? = some (nth zs k) := by rw [nth_eq h, List.getElem?_eq_getElem h]
theorem nth_mem {zs : List Int} {k : Nat} (h : k < zs.length) : nth zs k ∈ zs := by rw [nth_eq h]; exact List.getElem_mem h
theorem take_succ_nth {zs : List Int} {k : Nat} (h : k < zs.length) : zs.take (k + 1) = zs.take k ++ [nth zs k] := by
  rw [List.take_succ_eq_append_getElem h, nth_eq h]
theorem all_take_succ {zs : List Int} {k : Nat} {f : Int → Bool} (h : k < zs.length) : (zs.take (k + 1)).all f = ((zs.take k).all f && f (nth zs k)) := by
  rw [take_succ_nth h]; simp
theorem all_false_nth {zs : List Int} {k : Nat} {f : Int → Bool} (h : k < zs.length) (hf : f (nth zs k) = false) : zs.all f = false := by
  rw [List.all_eq_false]; exact ⟨_, nth_mem h, by simp [hf]⟩
theorem all_nth {zs : List Int} {k : Nat} {f : Int → Bool} (h : k < zs.length) (hf : zs.all f = true) : f (nth zs k) = true := by
  rw [List.all_eq_true] at hf; exact hf _ (nth_mem h)

/-- A part of a slice of numbers. -/
theorem Ints.part {w : World} {B n k m : Nat} {A : Option Addr} {zs : List Int} (h : Reads w B 1 A n (zs.map (Value.int .i64))) (hk : k + m ≤ n) :
    Reads w B 1 (A.map (·.add k)) m (((zs.drop k).take m).map (Value.int .i64)) := by
  have hl : zs.length = n := by have := h.1; simpa using this
  refine ⟨by simp; omega, fun hm => ?_⟩
  obtain ⟨ad, rfl, hb, hcell⟩ := h.2 (by omega)
  refine ⟨ad.add k, rfl, by rw [block_of_add]; exact hb, fun j u hu => ?_⟩
  rw [add_of_add]
  refine hcell _ u ?_
  simp only [List.getElem?_map, List.getElem?_take] at hu ⊢
  split at hu
  · rw [← hu, List.getElem?_drop]
  · cases hu

theorem fill_set {zs : List Int} {n k : Nat} (h : k < n) (hl : zs.length = n) (z : Value) :
    ((zs.take k).map (Value.int .i64) ++ List.replicate (n - k) z).set k (.int .i64 (nth zs k)) = (zs.take (k + 1)).map (Value.int .i64) ++ List.replicate (n - (k + 1)) z := by
  rw [take_succ_nth (by omega), List.set_append_right _ _ (by simp; omega)]
  have e : n - k = (n - (k + 1)) + 1 := by omega
  rw [e, List.replicate_succ]
  simp [show k - min k zs.length = 0 by omega]

theorem fill_get {zs : List Int} {n k : Nat} (h : k < n) (hl : zs.length = n) (z : Value) : ((zs.take k).map (Value.int .i64) ++ List.replicate (n - k) z)[k]? = some z := by
  have hm : ((zs.take k).map (Value.int .i64)).length = k := by simp; omega
  rw [List.getElem?_append_right (by omega), hm, Nat.sub_self, List.getElem?_replicate, if_pos (by omega)]

/-- A slice of int64 that reads as the numbers zs. -/
def Ints (w : World) (B : Nat) (A : Option Addr) (n : Nat) (zs : List Int) : Prop := Reads w B 1 A n (zs.map (Value.int .i64))
section
variable {w w' : World} {B B' n k : Nat} {A : Option Addr} {zs : List Int}
theorem Ints.len (h : Ints w B A n zs) : zs.length = n := by have := h.1; simpa using this
theorem Ints.at_ (h : Ints w B A n zs) (hk : k < n) : ∃ ad, A = some ad ∧ ad.block < B ∧ w.cell? (ad.add k) = some (.int .i64 (nth zs k)) := by
  obtain ⟨ad, u, e, hb, hx, hc⟩ := Reads.at_ h hk
  have hl : k < zs.length := by have := h.len; omega
  refine ⟨ad, e, hb, ?_⟩
  rw [hc, ← hx, List.getElem?_map, getElem?_nth hl]; rfl
theorem Ints.cell (h : Ints w B A n zs) : 0 < n → ∃ ad, A = some ad ∧ ad.block < B ∧ ∀ j, j < n → w.cell? (ad.add j) = some (.int .i64 (nth zs j)) := by
  intro hn
  obtain ⟨ad, e, hb, _⟩ := h.at_ hn
  refine ⟨ad, e, hb, fun j hj => ?_⟩
  obtain ⟨ad', e', _, hc⟩ := h.at_ hj
  rw [e] at e'; injection e' with e'; subst e'; exact hc
end

theorem Reads.cut {w : World} {B size n k cap : Nat} {A : Option Addr} {xs : List Value} (h : Reads w B size A n xs) (hk : k ≤ n) (hc : n ≤ cap) :
    Reads w B size (if cap = k then A else A.map (·.add (k * size))) (n - k) (xs.drop (k * size)) := by
  refine ⟨by rw [List.length_drop, h.1, Nat.sub_mul], fun hn => ?_⟩
  obtain ⟨ad, rfl, hb, hcell⟩ := h.2 (by omega)
  rw [if_neg (by omega)]
  refine ⟨ad.add (k * size), rfl, by rw [block_of_add]; exact hb, fun j u hu => ?_⟩
  rw [add_of_add]
  exact hcell _ u (by rw [← hu, List.getElem?_drop])
theorem Reads.head {w : World} {B size n k : Nat} {A : Option Addr} {xs : List Value} (h : Reads w B size A n xs) (hk : k ≤ n) : Reads w B size A k (xs.take (k * size)) := by
  have hkn : k * size ≤ n * size := Nat.mul_le_mul_right _ hk
  refine ⟨by rw [List.length_take, h.1]; omega, fun hn => ?_⟩
  obtain ⟨ad, rfl, hb, hcell⟩ := h.2 (by omega)
  exact ⟨ad, rfl, hb, fun j u hu => hcell j u (by rw [List.getElem?_take] at hu; split at hu; exact hu; cases hu)⟩

/-! ### slices of structs of one-cell fields -/
theorem flat_get {α : Type} (f : α → List Value) (size : Nat) (hf : ∀ x, (f x).length = size) (d : α) : ∀ (l : List α) (k j : Nat), k < l.length → j < size → (l.flatMap f)[k * size + j]? = (f (l.getD k d))[j]? := by
  intro l
  induction l with
  | nil => intro k j hk; simp at hk
  | cons x l ih =>
    intro k j hk hj
    rw [List.flatMap_cons]
    cases k with
    | zero => rw [List.getElem?_append_left (by rw [hf]; omega)]; simp
    | succ k =>
      have e : (k + 1) * size + j = size + (k * size + j) := by rw [Nat.add_mul]; omega
      rw [List.getElem?_append_right (by rw [hf]; omega), hf, e, Nat.add_sub_cancel_left, ih k j (by simpa using hk) hj]; simp
theorem flat_len {α : Type} (f : α → List Value) (size : Nat) (hf : ∀ x, (f x).length = size) (l : List α) : (l.flatMap f).length = l.length * size := by
  induction l with
  | nil => simp
  | cons x l ih => rw [List.flatMap_cons, List.length_append, hf, ih, List.length_cons, Nat.add_mul]; omega
theorem Reads.field {α : Type} {f : α → List Value} {w : World} {B size n k : Nat} {A : Option Addr} {l : List α} (hf : ∀ x, (f x).length = size) (hs : 0 < size) (d : α) (h : Reads w B size A n (l.flatMap f)) (hk : k < n) :
    ∃ ad, A = some ad ∧ ad.block < B ∧ ∀ j u, (f (l.getD k d))[j]? = some u → w.cell? ((ad.add (k * size)).add j) = some u := by
  obtain ⟨ad, e, hb, hc⟩ := h.2 (by omega)
  have hl : l.length = n := by
    have := h.1
    rw [flat_len f size hf] at this
    exact Nat.eq_of_mul_eq_mul_right hs this
  refine ⟨ad, e, hb, fun j u hu => ?_⟩
  have hj : j < size := by rw [← hf (l.getD k d)]; exact (List.getElem?_eq_some_iff.1 hu).1
  rw [add_of_add]
  exact hc _ u (by rw [flat_get f size hf d l k j (by omega) hj]; exact hu)
theorem Reads.count {α : Type} {f : α → List Value} {w : World} {B size n : Nat} {A : Option Addr} {l : List α} (hf : ∀ x, (f x).length = size) (hs : 0 < size) (h : Reads w B size A n (l.flatMap f)) : l.length = n := by
  have := h.1
  rw [flat_len f size hf] at this
  exact Nat.eq_of_mul_eq_mul_right hs this
/-- Cells stored one behind the other. -/
def setN (xs : List Value) (i : Nat) : List Value → List Value
  | [] => xs
  | u :: us => setN (xs.set i u) (i + 1) us
theorem setN_left (ys : List Value) : ∀ (us xs : List Value) (i : Nat), i + us.length ≤ xs.length → setN (xs ++ ys) i us = setN xs i us ++ ys := by
  intro us
  induction us with
  | nil => intro xs i _; rfl
  | cons u us ih => intro xs i h; simp only [setN]; rw [List.set_append_left _ _ (by simp at h; omega), ih _ _ (by simp at h ⊢; omega)]
theorem setN_right (ys : List Value) : ∀ (us xs : List Value) (i : Nat), setN (ys ++ xs) (ys.length + i) us = ys ++ setN xs i us := by
  intro us
  induction us with
  | nil => intro xs i; rfl
  | cons u us ih => intro xs i; simp only [setN]; rw [List.set_append_right _ _ (by omega), Nat.add_sub_cancel_left, Nat.add_assoc, ih]
theorem setN_all : ∀ (us xs pre : List Value), us.length = xs.length → setN (pre ++ xs) pre.length us = pre ++ us := by
  intro us
  induction us with
  | nil => intro xs pre h; have : xs = [] := List.eq_nil_of_length_eq_zero h.symm; subst this; rfl
  | cons u us ih =>
    intro xs pre h
    cases xs with
    | nil => simp at h
    | cons x xs =>
      simp only [setN]
      rw [List.set_append_right _ _ (by omega), Nat.sub_self, List.set_cons_zero]
      have := ih xs (pre ++ [u]) (by simpa using h)
      simpa using this
theorem flat_set {α : Type} (f : α → List Value) (size : Nat) (hf : ∀ x, (f x).length = size) : ∀ (l : List α) (k : Nat) (x : α), k < l.length → setN (l.flatMap f) (k * size) (f x) = (l.set k x).flatMap f := by
  intro l
  induction l with
  | nil => intro k x h; simp at h
  | cons y l ih =>
    intro k x h
    cases k with
    | zero =>
      rw [List.flatMap_cons, List.set_cons_zero, List.flatMap_cons, Nat.zero_mul, setN_left _ _ _ _ (by rw [hf, hf]; omega)]
      congr 1
      exact setN_all (f x) (f y) [] (by rw [hf, hf])
    | succ k =>
      have e : (k + 1) * size = (f y).length + k * size := by rw [hf, Nat.add_mul]; omega
      rw [List.flatMap_cons, e, setN_right, ih k x (by simpa using h), List.set_cons_succ, List.flatMap_cons]
theorem made_flat {α : Type} (f : α → List Value) (size : Nat) (hf : ∀ x, (f x).length = size) (hs : 0 < size) (x : α) (n : Nat) (z : Array Value) (hz : z.toList = f x) : (madeCells z (n * size)).toList = (List.replicate n x).flatMap f := by
  have hsz : z.size = size := by rw [← Array.length_toList, hz, hf]
  apply List.ext_getElem?
  intro i
  by_cases hi : i < n * size
  · have hd : i / size < n := Nat.div_lt_of_lt_mul (by rw [Nat.mul_comm]; exact hi)
    have hm : i % size < size := Nat.mod_lt _ hs
    have e := flat_get f size hf x (List.replicate n x) (i / size) (i % size) (by simpa using hd) hm
    have hdm : i / size * size + i % size = i := by rw [Nat.mul_comm]; exact Nat.div_add_mod i size
    rw [hdm] at e
    rw [e]
    have hx : (List.replicate n x).getD (i / size) x = x := by simp [List.getD, List.getElem?_replicate, hd]
    rw [hx, ← hz]
    have hm' : i % z.size < z.size := by rw [hsz]; exact hm
    simp only [madeCells, Array.toList_map, Array.toList_range, List.getElem?_map, List.getElem?_range hi, Option.map_some]
    rw [getElem!_pos z (i % z.size) hm', Array.getElem?_toList, Array.getElem?_eq_getElem (by rw [hsz]; exact hm)]
    congr 2
    rw [hsz]
  · have h1 : (madeCells z (n * size)).toList.length ≤ i := by simp [madeCells]; omega
    have h2 : ((List.replicate n x).flatMap f).length ≤ i := by rw [flat_len f size hf]; simp; omega
    rw [List.getElem?_eq_none h1, List.getElem?_eq_none h2]
theorem take_succ_at {α : Type} {l : List α} {k : Nat} (d : α) (h : k < l.length) : l.take (k + 1) = l.take k ++ [l.getD k d] := by
  rw [List.take_succ_eq_append_getElem h]; simp [List.getD, List.getElem?_eq_getElem h]
theorem fill_next {α : Type} {l : List α} {n k : Nat} (z : α) (hl : l.length = n) (hk : k < n) : (l.take k ++ List.replicate (n - k) z).set k (l.getD k z) = l.take (k + 1) ++ List.replicate (n - (k + 1)) z := by
  have hm : (l.take k).length = k := by rw [List.length_take]; omega
  have e2 := take_succ_at (l := l) z (show k < l.length by omega)
  rw [List.set_append_right _ _ (by omega), hm, Nat.sub_self, e2]
  have e : n - k = (n - (k + 1)) + 1 := by omega
  rw [e, List.replicate_succ, List.set_cons_zero, List.append_assoc]
  rfl
theorem addr_succ (a : Addr) (j : Nat) : a.add (j + 1) = ⟨a.block, a.off + (j + 1), none⟩ := by simp [Addr.add]

/-! ### all of the numbers below n -/
def allTo (f : Nat → Bool) (n : Nat) : Bool := (List.range n).all f
theorem allTo_zero (f : Nat → Bool) : allTo f 0 = true := rfl
theorem allTo_succ (f : Nat → Bool) (n : Nat) : allTo f (n + 1) = (allTo f n && f n) := by simp [allTo, List.range_succ]
theorem allTo_false {f : Nat → Bool} {n k : Nat} (hk : k < n) (h : f k = false) : allTo f n = false := by
  rw [allTo, List.all_eq_false]; exact ⟨k, List.mem_range.2 hk, by simp [h]⟩
theorem allTo_true {f : Nat → Bool} {n : Nat} : allTo f n = true ↔ ∀ k, k < n → f k = true := by simp [allTo]

/-- The first number below n of which p holds; -1 if there is none. -/
def firstTo (p : Nat → Bool) (n : Nat) : Int := match (List.range n).find? p with | some k => k | none => -1
theorem firstTo_some {p : Nat → Bool} {n k : Nat} (hk : k < n) (h0 : allTo (fun j => !p j) k = true) (h1 : p k = true) : firstTo p n = k := by
  have : (List.range n).find? p = some k := by
    rw [List.find?_range_eq_some]
    exact ⟨h1, List.mem_range.2 hk, fun j hj => by have := allTo_true.1 h0 j hj; simpa using this⟩
  rw [firstTo, this]
theorem firstTo_none {p : Nat → Bool} {n : Nat} (h0 : allTo (fun j => !p j) n = true) : firstTo p n = -1 := by
  have : (List.range n).find? p = none := by
    rw [List.find?_eq_none]
    intro x hx
    have := allTo_true.1 h0 x (List.mem_range.1 hx)
    simpa using this
  rw [firstTo, this]
theorem firstTo_cases (p : Nat → Bool) (n : Nat) : (firstTo p n = -1 ∧ ∀ k, k < n → p k = false) ∨ ∃ k, k < n ∧ firstTo p n = (k : Nat) ∧ p k = true ∧ ∀ j, j < k → p j = false := by
  unfold firstTo
  cases h : (List.range n).find? p with
  | none =>
    rw [List.find?_eq_none] at h
    exact .inl ⟨rfl, fun k hk => by simpa using h k (List.mem_range.2 hk)⟩
  | some k =>
    rw [List.find?_range_eq_some] at h
    exact .inr ⟨k, List.mem_range.1 h.2.1, rfl, h.1, fun j hj => by simpa using h.2.2 j hj⟩

/-! ### bounds -/
/-- n is a to b. -/
def inB (n a b : Int) : Bool := decide (a ≤ n) && decide (n ≤ b)
theorem inB_true {n a b : Int} : inB n a b = true ↔ a ≤ n ∧ n ≤ b := by simp [inB]
theorem inB_false {n a b : Int} : inB n a b = false ↔ n < a ∨ b < n := by
  rw [← Bool.not_eq_true, inB_true]; omega
theorem flip_t {b : Bool} (h : (!b) = true) : b = false := by simpa using h
theorem flip_f {b : Bool} (h : (!b) = false) : b = true := by simpa using h
theorem ret_bool {a b : Bool} (h : a = b) : Ending.returned (.bool a) = .returned (.bool b) := by rw [h]
theorem ret_int {k : IntKind} {a b : Int} (h : a = b) : Ending.returned (.int k a) = .returned (.int k b) := by rw [h]
theorem int_eq {k : IntKind} {a b : Int} (h : a = b) : Value.int k a = .int k b := by rw [h]
theorem bool_eq {a b : Bool} (h : a = b) : Value.bool a = .bool b := by rw [h]
theorem ret2 {a a' b b' : Value} (h : a = a') (h' : b = b') : Ending.returned (.tuple #[a, b]) = .returned (.tuple #[a', b']) := by rw [h, h']
theorem ret3 {a a' b b' c c' : Value} (h : a = a') (h' : b = b') (h'' : c = c') : Ending.returned (.tuple #[a, b, c]) = .returned (.tuple #[a', b', c']) := by rw [h, h', h'']
theorem div_le_self {x y : Int} (hx : 0 ≤ x) (hy : 0 < y) : 0 ≤ x / y ∧ x / y ≤ x :=
  ⟨Int.ediv_nonneg hx (by omega), Int.ediv_le_self _ hx⟩
theorem mul_bd {x y X Y : Int} (hx : 0 ≤ x) (hX : x ≤ X) (hy : 0 ≤ y) (hY : y ≤ Y) : 0 ≤ x * y ∧ x * y ≤ X * Y :=
  ⟨Int.mul_nonneg hx hy, Int.mul_le_mul hX hY hy (by omega)⟩
end Go.Proofs.YtickepianllblaaGreatDoor
