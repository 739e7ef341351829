/- Evacuation: QuickestWay: contracts of both sides. -/
import Derived.Test.YtcppogfffgdjhaaWh
import Derived.Test.YtcppogfffgdjhaaWi
namespace Go.Proofs.Ytcppogfffgdjhaa
open Go.RowKit
set_option maxRecDepth 100000
set_option linter.unusedVariables false
set_option linter.unusedSimpArgs false

theorem Own.one (w : World) (B e : Nat) (x : Value) (hB : B ≤ w.heap.size) (h1 : x.oneCell' = true) : Own (w.alloc (.cells #[x] e)) B e 1 (some ⟨w.heap.size, 0, none⟩) 1 1 [x] :=
  ⟨by simp, .inr ⟨w.heap.size, 1, #[x], rfl, hB, heap_alloc_new w _, Nat.le_refl _, by simp [maxLen], rfl, by simp⟩⟩
theorem Own.drewN {w : World} {B e size n c : Nat} {A : Option Addr} {xs : List Value} (h : Own w B e size A n c xs) (d : Nat) : Own (w.drewN d) B e size A n c xs := h
theorem Own.grownA {w w' : World} {B e size n c : Nat} {A A1 : Option Addr} {xs : List Value} (h : Own w B e size A n c xs) (hg : w.grownBy w' (A1.map (·.block))) (ha : Apart A1 A) : Own w' B e size A n c xs := by
  cases A1 with
  | none =>
    refine World.ownsRow.kept (h : w.ownsRow B e size (.slice A n c) n xs) hg ?_
    cases A with
    | none => exact .inl rfl
    | some x => exact .inr (by simp [Value.ownBlock])
  | some a => exact h.grown hg (fun x hx he => ha a x rfl hx he.symm)
theorem apart_app {A2 A3 A : Option Addr} {k : Nat} (ha : Apart A2 A) (hat : A3.map (·.block) = A2.map (·.block) ∨ ∃ y, A3 = some y ∧ y.block = k) (hk : ∀ a, A = some a → a.block < k) : Apart A3 A := by
  intro a a' h1 h2 he
  subst h1
  rcases hat with e | e
  · cases A2 with
    | none => simp at e
    | some y =>
      have e : a.block = y.block := by simpa using e
      exact ha y a' rfl h2 (by omega)
  · obtain ⟨y, e, e2⟩ := e
    injection e with e
    subst e
    have := hk a' h2
    omega
/-- What the walk needs of the times to a place. -/
structure TimesP (P : Nat) (l : List WalkR) (lad : Bool) (to : Int) (F : List Int) : Prop where
  top : ∀ v, v < P → -1 ≤ nth F v ∧ nth F v ≤ 57600
  hop : ∀ a v : Int, (decide (0 ≤ secTo l a v lad l.length) && (decide (0 ≤ nth F v.toNat) && (secTo l a v lad l.length + nth F v.toNat == nth F a.toNat))) = hopB l lad F a v
  best : ∀ a, bestHop l lad F a l.length = nextP P l lad F a
  next : ∀ a : Int, 0 ≤ a ∧ a < P → a ≠ to → 0 ≤ nth F a.toNat → ∃ v : Nat, v < P ∧ nextP P l lad F a = v ∧ (∀ j : Nat, j < v → hopB l lad F a j = false) ∧ hopB l lad F a v = true ∧ 0 ≤ nth F v ∧ nth F v + 1 ≤ nth F a.toNat
  secs : ∀ a v : Int, -1 ≤ secTo l a v lad l.length ∧ secTo l a v lad l.length ≤ 3600
theorem timesP {P : Nat} {l : List WalkR} {lad : Bool} (hw : walksB P l = true) (to : Int) : TimesP P l lad to (timesR P l [to] lad) := by
  obtain ⟨hl, hp⟩ := okW_of hw
  have e : ((P : Int)).toNat = P := by omega
  rw [e] at hl
  refine ⟨fun v hv => times_top lad hw [to] v (by omega), fun a v => hop_impl hl (times_closed lad hw [to]) a v, fun a => bestHop_all hl a, fun a ha hne h0 => ?_, fun a v => secTo_bd hw a v lad _ (Nat.le_refl _)⟩
  have := next_is (lad := lad) hw to a ha hne h0
  rwa [e] at this

theorem spot_ofQ {p src : Int} (hp : 1 ≤ p ∧ p ≤ 16) (h : inB src 0 (top p) = true) : 0 ≤ src ∧ src < p := by
  have h1 := inB_true.1 h
  have ht : top p = p - 1 := by unfold top wrap64; omega
  omega

set_option maxHeartbeats 2000000 in
theorem implQuickestWay_any {A : Option Addr} {n c B : Nat} {p src to : Int} {l : List WalkR} {lad : Bool} {w : World} (h : Reads w B 4 A n (l.flatMap WalkR.cells)) (hB : B ≤ w.heap.size) (hc : n ≤ c) (hn : n ≤ 1048576) :
    Calls Try.prog 17 #[.int .i64 p, .slice A n c, .int .i64 src, .int .i64 to, .bool lad] w fun e w' => ∃ A2 n2 c2, e = .returned (.tuple #[.slice A2 n2 c2, .int .i64 (rQuickestWay p l src to lad).2.1, .int .i64 (rQuickestWay p l src to lad).2.2]) ∧ n2 ≤ 1048576 ∧
      Own w' w.heap.size 2 1 A2 n2 c2 ((rQuickestWay p l src to lad).1.map (Value.int .i64)) ∧ Below w.heap.size w w' := by
  have HL := Lib.hid (WalkR.count h)
  obtain ⟨i0, hi0, hz0, hz1, hz2⟩ := info_parts info_int
  by_cases ha : askW p l (inB src 0 (top p) && inB to 0 (top p)) true = 0
  · have Hr : Hid (rQuickestWay p l src to lad = if nth (timesR p l [to] lad) src.toNat < 0 then ([], 0, 3) else (wayR p l lad src to, nth (timesR p l [to] lad) src.toNat, 0)) := Lib.hid (by rw [rQuickestWay, if_pos ha])
    obtain ⟨hw, hf, _⟩ := askW_zero.1 ha
    have hp := (okW_of hw).2
    rw [hf] at ha
    simp only [Bool.and_eq_true] at hf
    obtain ⟨hf1, hf2⟩ := hf
    have hv := spot_ofQ hp hf1
    have Hg := Lib.hid (goals_one hp hf2)
    obtain ⟨P, rfl⟩ := Int.eq_ofNat_of_zero_le (show 0 ≤ p by omega)
    obtain ⟨V, rfl⟩ := Int.eq_ofNat_of_zero_le hv.1
    have hP : (P : Int).toNat = P := by omega
    have hV : (V : Int).toNat = V := by omega
    have hP2 : P ≤ 16 := by omega
    have HT := Lib.hid (timesP (lad := lad) hw to)
    have Hway : Hid (wayR P l lad V to = (V : Int) :: wayOf P l lad (timesR P l [to] lad) to (nth (timesR P l [to] lad) V).toNat V) := Lib.hid (by rw [wayR, hP, hV])
    have hlW := (okW_of hw).1
    rw [hP] at hlW
    rw [hV] at Hr
    have Ho := Lib.hid hlW
    clear hlW
    go_enter Try.func17, Try.ntmps17
    go_wp2_with (go_at_call 23; refine (isSpotOf_any _ _ _).mono ?_; rintro e w' ⟨rfl, rfl⟩)
    refine (walked_any h hB hn).mono ?_
    rintro e w1 ⟨rfl, b1⟩
    rw [ha]
    have hs1 := b1.size
    go_wp2_with fail
    refine (timesTo_any (goals := [to]) (B' := w1.heap.size + 1) (Reads.alloc (Reads.below h b1 hB) (by omega) _) (by simp; omega) hn (cell_one_at _ _ _) (by simp) (by omega) hw).mono ?_
    rintro e w2 ⟨AF, cF, rfl, oF, b2⟩
    have hx : w.heap.size ≤ (w1.alloc (.cells #[.int .i64 to] 2)).heap.size := by simp; omega
    have b02 : Below w.heap.size w w2 := (b1.alloc (by omega) _).trans (b2.mono hx)
    have oF := oF.mono hx
    rw [hP] at oF
    have hlen : (timesR P l [to] lad).length = P := by have := oF.len; simpa using this
    generalize timesR P l [to] lad = F at *
    clear b2 hx
    have hs2 := b02.size
    obtain ⟨ad2, rfl, hbl2, hc2⟩ := Ints.at_ (k := V) (own_reads oF) (by omega)
    have hv0 : (0 : Int) ≤ (V : Int) := by omega
    have hv1 : (V : Int) < (P : Int) := by omega
    rw [hP]
    by_cases e0 : nth F V < 0
    · go_wp2_with fail
      go_ret3
      exact ⟨none, 0, 0, by rw [Hr.out, if_pos (by omega)]; rfl, by omega, by rw [Hr.out, if_pos (by omega)]; exact Own.nil _ _ _ _, b02⟩
    · have Hr2 : Hid (rQuickestWay P l V to lad = (wayR P l lad V to, nth F V, 0)) := Lib.hid (by rw [Hr.out, if_neg e0])
      have o1 := Own.one w2 w.heap.size 2 (.int .i64 (V : Int)) hs2 rfl
      have oF1 := oF.alloc (.cells #[.int .i64 (V : Int)] 2)
      have b1 := b02.alloc hs2 (.cells #[.int .i64 (V : Int)] 2)
      have ht0 := HT.out.top V (by omega)
      have ap1 : Apart (some ⟨w2.heap.size, 0, none⟩) (some ad2) := by intro x y hx hy; injection hx with hx; injection hy with hy; subst hx; subst hy; have := (oF.block_lt _ rfl).2.2.2; show w2.heap.size ≠ _; omega
      clear Hr oF
      go_wp2_with fail
      go_loopg [15, 16] (nth F V).toNat (fun gk v i wr => ∃ (a m : Nat) (xs : List Int) (A2 : Option Addr) (n2 c2 : Nat), i = .int .i64 a ∧ a < P ∧ 0 ≤ nth F a ∧ gk = (nth F a).toNat ∧ v = .slice A2 n2 c2 ∧ n2 + gk ≤ 57601 ∧ gk ≤ m ∧ wayR P l lad V to = xs ++ wayOf P l lad F to m a ∧
        Own wr w.heap.size 2 1 A2 n2 c2 (xs.map (Value.int .i64)) ∧ Own wr w.heap.size 2 1 (some ad2) P cF (F.map (Value.int .i64)) ∧ Below w.heap.size w wr ∧ Apart A2 (some ad2))
      case atStart => exact ⟨V, (nth F V).toNat, [(V : Int)], _, 1, 1, rfl, by omega, by omega, rfl, rfl, by omega, Nat.le_refl _, by rw [Hway.out]; rfl, o1, oF1, b1, ap1⟩
      case round =>
        clear o1 oF1 b1 b02 hs2 hc2 hbl2
        obtain ⟨a, m, xs, A2, n2, c2, rfl, haP, ha0, hgk, rfl, hlen2, hm, hway, ho, oF, hb, hap⟩ := hrel
        have Hgk := Lib.hid hgk
        have Hway2 := Lib.hid hway
        have hbs := hb.size
        clear hgk hway
        obtain ⟨adV, eV, hbl2, hcV⟩ := Ints.at_ (k := V) (own_reads oF) (by omega)
        injection eV with eV
        subst eV
        obtain ⟨adA, eA, _, hcA⟩ := Ints.at_ (k := a) (own_reads oF) (by omega)
        injection eA with eA
        subst eA
        have haI : (0 : Int) ≤ (a : Int) := by omega
        have haI2 : (a : Int) < (P : Int) := by omega
        have haN : ((a : Int)).toNat = a := by omega
        by_cases hat : (a : Int) = to
        · have hx : wayR P l lad V to = xs := by rw [Hway2.out, hat, wayOf_end, List.append_nil]
          have Hx := Lib.hid hx
          clear hx Hway2 Hgk
          subst hat
          go_wp2_with fail
          go_quiet (fail)
          go_wp2_with fail
          go_ret3
          exact ⟨A2, n2, c2, by rw [Hr2.out]; rfl, by omega, by rw [Hr2.out]; show Own _ _ _ _ _ _ _ ((wayR P l lad V ↑a).map _); rw [Hx.out]; exact ho.drewN _, below_drewN hb _⟩
        · obtain ⟨v, hvP, hnx, hno, hhv, hv0', hv1'⟩ := HT.out.next a ⟨haI, haI2⟩ hat (by rw [haN]; exact ha0)
          rw [haN] at hv1'
          have Hhop : Hid (∀ k : Nat, (decide (0 ≤ secTo l a k lad n) && (decide (0 ≤ nth F k) && (secTo l a k lad n + nth F k == nth F a))) = hopB l lad F a k) := Lib.hid fun k => by
            have := HT.out.hop a k
            rw [HL.out] at this
            simpa using this
          have Hno := Lib.hid hno
          have Hhv := Lib.hid hhv
          have Hnx := Lib.hid hnx
          have Hm : Hid (∃ m', m = m' + 1 ∧ wayR P l lad V to = (xs ++ [(v : Int)]) ++ wayOf P l lad F to m' v) := Lib.hid (by
            have hgk := Hgk.out
            obtain ⟨m', rfl⟩ : ∃ m', m = m' + 1 := ⟨m - 1, by omega⟩
            exact ⟨m', rfl, by rw [Hway2.out, wayOf_step _ _ _ _ _ hat, hnx, List.append_assoc]; rfl⟩)
          clear hno hhv hnx Hway2
          have hne' : ((a : Int) != to) = true := bne_iff_ne.2 hat
          obtain ⟨gko, hgko⟩ : ∃ gko, gko = gk := ⟨_, rfl⟩
          go_wp2_with fail
          go_loopg [16, 51] P (fun gk x i wr => ∃ k : Nat, k ≤ v ∧ gk + k = P ∧ x = .int .i64 (a : Int) ∧ i = .int .i64 k ∧ Own wr w.heap.size 2 1 A2 n2 c2 (xs.map (Value.int .i64)) ∧ Own wr w.heap.size 2 1 (some ad2) P cF (F.map (Value.int .i64)) ∧ Below w.heap.size w wr ∧ Apart A2 (some ad2))
          case atStart => exact ⟨0, by omega, by omega, rfl, rfl, ho, oF, hb, hap⟩
          case round =>
            clear ho oF hb hbs hcV hcA hbl2
            obtain ⟨k, hk, hgk2, rfl, rfl, ho, oF, hb, _⟩ := hrel
            have Hgk2 := Lib.hid hgk2
            have hbs := hb.size
            clear hgk2
            have hkP : k < P := by omega
            have hk0 : (0 : Int) ≤ (k : Int) := by omega
            have hk1 : (k : Int) < (P : Int) := by omega
            go_wp2_with fail
            refine (seconds_any (Reads.below h hb hB) (by omega) hn).mono ?_
            rintro e w3 ⟨rfl, b3⟩
            have hb3 := hb.trans (b3.mono hbs)
            have ho3 := ho.below b3
            have oF3 := oF.below b3
            clear hb ho oF b3 hbs
            have hbs3 := hb3.size
            obtain ⟨adK, eK, hblK, hcK⟩ := Ints.at_ (k := k) (own_reads oF3) (by omega)
            injection eK with eK
            subst eK
            obtain ⟨adA, eA, _, hcA⟩ := Ints.at_ (k := a) (own_reads oF3) (by omega)
            injection eA with eA
            subst eA
            have hsec := HT.out.secs a k
            rw [HL.out] at hsec
            have htk := HT.out.top k hkP
            have Hh := Lib.hid (Hhop.out k)
            generalize secTo l a k lad n = s at *
            have hq : IntKind.i64.wrap (s + nth F k) = s + nth F k := IntWalk.i64_in _ (by omega)
            have hq2 : IntKind.i64.wrap ((k : Int) + 1) = (k : Int) + 1 := IntWalk.i64_in _ (by omega)

            cases d0 : decide (0 ≤ s) with
            | false =>
              have Hk : Hid (k < v) := Lib.hid (by
                rcases Nat.lt_or_ge k v with h1 | h1
                · exact h1
                · exfalso
                  have e : k = v := by omega
                  have h2 := Hh.out
                  rw [d0, e, Hhv.out] at h2
                  simp at h2)
              go_wp2_with fail
              go_quiet (fail)
              go_wp2_with fail
              have hgk2 := Hgk2.out
              have hkv := Hk.out
              go_roundg (gk - 1)
              case rel => exact ⟨k + 1, by omega, by omega, by go_num, by go_num, ho3.drewN _, oF3.drewN _, below_drewN hb3 _, hap⟩
              case measure => omega
            | true =>
            cases d1 : decide (0 ≤ nth F k) with
            | false =>
              have Hk : Hid (k < v) := Lib.hid (by
                rcases Nat.lt_or_ge k v with h1 | h1
                · exact h1
                · exfalso
                  have e : k = v := by omega
                  have h2 := Hh.out
                  rw [d0, d1, e, Hhv.out] at h2
                  simp at h2)
              go_wp2_with fail
              go_quiet (fail)
              go_wp2_with fail
              have hgk2 := Hgk2.out
              have hkv := Hk.out
              go_roundg (gk - 1)
              case rel => exact ⟨k + 1, by omega, by omega, by go_num, by go_num, ho3.drewN _, oF3.drewN _, below_drewN hb3 _, hap⟩
              case measure => omega
            | true =>
            cases d2 : (s + nth F k == nth F a) with
            | false =>
              have Hk : Hid (k < v) := Lib.hid (by
                rcases Nat.lt_or_ge k v with h1 | h1
                · exact h1
                · exfalso
                  have e : k = v := by omega
                  have h2 := Hh.out
                  rw [d0, d1, d2, e, Hhv.out] at h2
                  simp at h2)
              go_wp2_with fail
              go_quiet (fail)
              go_wp2_with fail
              have hgk2 := Hgk2.out
              have hkv := Hk.out
              go_roundg (gk - 1)
              case rel => exact ⟨k + 1, by omega, by omega, by go_num, by go_num, ho3.drewN _, oF3.drewN _, below_drewN hb3 _, hap⟩
              case measure => omega
            | true =>
              have Hk : Hid (k = v) := Lib.hid (by
                rcases Nat.lt_or_ge k v with h1 | h1
                · exfalso
                  have h2 := Hh.out
                  rw [d0, d1, d2, Hno.out k h1] at h2
                  simp at h2
                · omega)
              go_wp2_with fail
              go_quiet (fail)
              go_wp2_with (at_builtin; refine wpList_app rfl (.tmp 83) (.tmp 85) 27 rfl 2 i0 _ 1 8 Try.underlying27 hi0 hz0 hz1 hz2 rfl (by omega) (by omega) w.heap.size _ _ _ _ rfl ((ho3.drewN _).alloc _) ⟨w3.heap.size, 0, none⟩ 1 1 [.int .i64 (k : Int)] rfl rfl (by exact cell_one_new _ _ _) (by simp [Value.oneCell']) (by omega) (by simp; omega) ?_)
              intro A3 c3 w4 ho4 hgA hbA hat2
              have hkv := Hk.out
              subst hkv
              obtain ⟨m', hm', hway'⟩ := Hm.out
              have hb4 : Below w.heap.size w w4 := ((below_drewN hb3 _).alloc (by simpa using hbs3) _).trans hbA
              have ho5 : Own w4 w.heap.size 2 1 A3 (n2 + 1) c3 ((xs ++ [(k : Int)]).map (Value.int .i64)) := by rw [List.map_append]; exact ho4
              have oF4 : Own w4 w.heap.size 2 1 (some ad2) P cF (F.map (Value.int .i64)) := ((oF3.drewN _).alloc _).grownA hgA hap
              have hap4 : Apart A3 (some ad2) := apart_app hap hat2 (fun x hx => by injection hx with hx; subst hx; have := (oF3.block_lt _ rfl).2.2.2; simp; omega)
              clear ho4 hgA hbA hat2
              have Hway3 := Lib.hid hway'
              clear hway'
              go_wp2_with fail
              have hgk := Hgk.out
              go_roundg ((nth F k).toNat)
              case rel => exact ⟨k, m', xs ++ [(k : Int)], A3, n2 + 1, c3, rfl, by omega, by omega, rfl, rfl, by omega, by omega, Hway3.out, ho5, oF4, hb4, hap4⟩
              case measure => omega
  · have Hr : Hid (rQuickestWay p l src to lad = ([], 0, askW p l (inB src 0 (top p) && inB to 0 (top p)) true)) := Lib.hid (by rw [rQuickestWay, if_neg ha])
    cases v1 : inB src 0 (top p) <;> cases v2 : inB to 0 (top p) <;>
      (rw [v1, v2] at ha Hr
       go_enter Try.func17, Try.ntmps17
       go_wp2_with (go_at_call 23; refine (isSpotOf_any _ _ _).mono ?_; rintro e w' ⟨rfl, rfl⟩)
       refine (walked_any h hB hn).mono ?_
       rintro e w1 ⟨rfl, b1⟩
       simp only [Bool.false_and, Bool.true_and, Bool.and_false, Bool.and_true, Bool.and_self] at ha Hr
       generalize askW p l _ true = cd at ha Hr ⊢
       go_wp2_with fail
       go_ret3
       exact ⟨none, 0, 0, by rw [Hr.out]; rfl, by omega, by rw [Hr.out]; exact Own.nil _ _ _ _, b1⟩)

end Go.Proofs.Ytcppogfffgdjhaa
