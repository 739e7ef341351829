/- Rope tests: NewBroken: contracts of both sides. -/
import Derived.Test.YtppbfdlgpehanaaRB
import Derived.Deep.RegionHeld3
namespace Go.Proofs.Ytppbfdlgpehanaa
open Go.RowKit
set_option maxRecDepth 100000
set_option linter.unusedVariables false

def diffTo (a b : List Int) (k : Nat) : List Int := (List.range k).map fun j => nth b j - nth a j
theorem diffTo_succ (a b : List Int) (k : Nat) : diffTo a b (k + 1) = diffTo a b k ++ [nth b k - nth a k] := by simp [diffTo, List.range_succ]
def riseTo (a b : List Int) (k : Nat) : Bool := allTo (fun j => decide (nth a j ≤ nth b j)) k
def rNewBroken (a b : List Int) : List Int × Int :=
  if spotsB a && spotsB b then (if a.length = b.length then (if riseTo a b a.length then (diffTo a b a.length, 0) else ([], 6)) else ([], 7)) else ([], 1)

theorem implNewBroken_any {A A' : Option Addr} {n c B n' c' B' : Nat} {a b : List Int} {w : World} (h : Ints w B A n a) (hB : B ≤ w.heap.size) (hc : n ≤ c) (hn : n ≤ 1048576) (h' : Ints w B' A' n' b) (hB' : B' ≤ w.heap.size) (hc' : n' ≤ c') (hn' : n' ≤ 1048576) :
    Calls Try.prog 13 #[.slice A n c, .slice A' n' c'] w fun e w' => ∃ A2 n2 c2, e = .returned (.tuple #[.slice A2 n2 c2, .int .i64 (rNewBroken a b).2]) ∧ n2 ≤ 1048576 ∧
      Own w' w.heap.size 2 1 A2 n2 c2 ((rNewBroken a b).1.map (Value.int .i64)) ∧ Below w.heap.size w w' := by
  have HL := Lib.hid h.len
  have HL' := Lib.hid h'.len
  obtain ⟨i0, hi, hz0, hz1, hz2⟩ := info_parts info_int
  cases h1 : spotsB a with
  | false =>
    have Hr : Hid (rNewBroken a b = ([], 1)) := Lib.hid (by rw [rNewBroken, h1]; rfl)
    go_enter Try.func13, Try.ntmps13
    go_wp2_with (first | (go_at_call 28; refine (validSpots_any A n c _ a _ h (by omega)).mono ?_; rintro e w' ⟨rfl, rfl⟩) | (go_at_call 28; refine (validSpots_any A' n' c' _ b _ h' (by omega)).mono ?_; rintro e w' ⟨rfl, rfl⟩))
    go_ret2
    exact ⟨_, _, _, by rw [Hr.out]; rfl, by omega, by rw [Hr.out]; exact Own.nil _ _ _ _, Below.refl _ _⟩
  | true =>
  cases h2 : spotsB b with
  | false =>
    have Hr : Hid (rNewBroken a b = ([], 1)) := Lib.hid (by rw [rNewBroken, h1, h2]; rfl)
    go_enter Try.func13, Try.ntmps13
    go_wp2_with fail
    refine (validSpots_any A n c _ a _ h (by omega)).mono ?_
    rintro e w' ⟨rfl, rfl⟩
    go_wp2_with fail
    refine (validSpots_any A' n' c' _ b _ h' (by omega)).mono ?_
    rintro e w' ⟨rfl, rfl⟩
    go_wp2_with fail
    go_ret2
    exact ⟨_, _, _, by rw [Hr.out]; rfl, by omega, by rw [Hr.out]; exact Own.nil _ _ _ _, Below.refl _ _⟩
  | true =>
  by_cases h3 : n = n'
  · subst h3
    have hne : ((n : Int) != (n : Int)) = false := by simp
    have Hr : Hid (rNewBroken a b = if riseTo a b n then (diffTo a b n, 0) else ([], 6)) := Lib.hid (by have e1 := HL.out; have e2 := HL'.out; rw [rNewBroken, if_pos (by rw [h1, h2]; rfl), if_pos (by omega), e1])
    have Ha := Lib.hid (spotsB_true.1 h1).1
    have Hb := Lib.hid (spotsB_true.1 h2).1
    go_enter Try.func13, Try.ntmps13
    go_wp2_with fail
    refine (validSpots_any A n c _ a _ h (by omega)).mono ?_
    rintro e w' ⟨rfl, rfl⟩
    go_wp2_with fail
    refine (validSpots_any A' n c' _ b _ h' (by omega)).mono ?_
    rintro e w' ⟨rfl, rfl⟩
    go_wp2_with fail
    clear h1 h2
    go_loopg [6, 23] n (fun gk v i wr => ∃ k A2 c2, k ≤ n ∧ gk + k = n ∧ i = .int .i64 (k : Nat) ∧ v = .slice A2 k c2 ∧ Own wr w.heap.size 2 1 A2 k c2 ((diffTo a b k).map (Value.int .i64)) ∧ Below w.heap.size w wr ∧ riseTo a b k = true)
    case atStart => exact ⟨0, none, 0, by omega, by omega, rfl, rfl, Own.nil _ _ _ _, Below.refl _ _, rfl⟩
    case round =>
      obtain ⟨k, A2, c2, hk, hgk, rfl, rfl, ho, hb, hall⟩ := hrel
      have Hgk := Lib.hid hgk
      have Hall := Lib.hid hall
      clear hgk hall
      by_cases hlt : k < n
      · obtain ⟨ad, rfl, hbl, hc1⟩ := Ints.at_ (Reads.below h hb hB) hlt
        obtain ⟨ad', rfl, hbl', hc1'⟩ := Ints.at_ (Reads.below h' hb hB') hlt
        have ra := Ha.out _ (nth_mem (zs := a) (k := k) (by rw [HL.out]; omega))
        have rb := Hb.out _ (nth_mem (zs := b) (k := k) (by rw [HL'.out]; omega))
        have hk0 : (0 : Int) ≤ (k : Int) := by omega
        have hk1 : (k : Int) < (n : Int) := by omega
        have Hrise : Hid (riseTo a b (k + 1) = (riseTo a b k && decide (nth a k ≤ nth b k))) := Lib.hid (by rw [riseTo, allTo_succ, ← riseTo])
        by_cases hd : nth b k < nth a k
        · have Hf : Hid (riseTo a b n = false) := Lib.hid (allTo_false hlt (by simp; omega))
          go_wp2_with fail
          go_quiet (fail)
          go_wp2_with fail
          go_ret2
          exact ⟨_, _, _, by rw [Hr.out, Hf.out]; rfl, by omega, by rw [Hr.out, Hf.out]; exact Own.nil _ _ _ _, below_drewN hb _⟩
        · have Ht : Hid (riseTo a b (k + 1) = true) := Lib.hid (by rw [Hrise.out, Hall.out]; simp; omega)
          go_wp2_with fail
          go_quiet (fail)
          go_wp2_with fail
          obtain ⟨b0, o0, sp⟩ := ad
          obtain ⟨b1, o1, sp1⟩ := ad'
          generalize hw2 : wr.drewN nq = w2 at *
          have hb2 : Below w.heap.size w w2 := by rw [← hw2]; exact below_drewN hb _
          have ho2 : Own w2 w.heap.size 2 1 A2 k c2 ((diffTo a b k).map (Value.int .i64)) := by rw [← hw2]; exact ho
          have hc2 : w2.cell? ((⟨b0, o0, sp⟩ : Addr).add k) = some (.int .i64 (nth a k)) := by rw [← hw2]; exact hc1
          have hc2' : w2.cell? ((⟨b1, o1, sp1⟩ : Addr).add k) = some (.int .i64 (nth b k)) := by rw [← hw2]; exact hc1'
          clear hw2 hc1 hc1' ho hb
          have hbs := hb2.size
          have hq : IntKind.i64.wrap (nth b k - nth a k) = nth b k - nth a k := IntWalk.i64_in _ (by omega)
          simp only at hbl hbl'
          go_region_held3 (fun w' => w'.cell? ((⟨b0, o0, sp⟩ : Addr).add k) = some (.int .i64 (nth a k)) ∧ w'.cell? ((⟨b1, o1, sp1⟩ : Addr).add k) = some (.int .i64 (nth b k)))
            (first | go_keep | (go_split_ands; refine ⟨?_, ?_⟩ <;> (rw [World.cell?_alloc_lt _ _ _ (by simp only [block_of_add]; omega)]; assumption)) | (go_split_ands; refine ⟨?_, ?_⟩ <;> (rw [hbA.cell (by simp only [block_of_add]; omega)]; assumption)))
            ((refine step_app _ (by rfl) (.tmp 35) (.tmp 45) 26 (by rfl) 2 i0 _ 1 8 Try.underlying26 hi hz0 hz1 hz2 rfl (by omega) (by omega) w.heap.size k c2 A2 ((diffTo a b k).map (Value.int .i64)) (by rfl) ((ho2.alloc _).drew) ⟨w2.heap.size, 0, none⟩ 1 1 [.int .i64 (nth b k - nth a k)] (by rfl) (by rfl) (cell_one_drew _ _ _) (by simp [Value.oneCell']) (by omega) (by simp; omega) ?_; intro A3 c3 w3 ho3 hgA hbA hat))
          have ho4 : Own w3 w.heap.size 2 1 A3 (k + 1) c3 ((diffTo a b (k + 1)).map (Value.int .i64)) := by
            rw [diffTo_succ, List.map_append]; exact ho3
          have hb4 : Below w.heap.size w w3 := ((hb2.alloc hb2.size _).drew).trans hbA
          clear ho3 hbA hgA hat ho2 hb2 hc2 hc2'
          go_wp2_with fail
          have hgk := Hgk.out
          go_roundg (gk - 1)
          case rel => exact ⟨k + 1, A3, c3, by omega, by omega, by go_num, rfl, ho4, hb4, Ht.out⟩
          case measure => omega
      · have hke : k = n := by omega
        subst hke
        go_wp2_with fail
        go_ret2
        exact ⟨_, _, _, by rw [Hr.out, Hall.out]; rfl, hn, by rw [Hr.out, Hall.out]; exact ho, hb⟩
  · have Hr : Hid (rNewBroken a b = ([], 7)) := Lib.hid (by have e1 := HL.out; have e2 := HL'.out; rw [rNewBroken, if_pos (by rw [h1, h2]; rfl), if_neg (by omega)])
    have hne : ((n : Int) != (n' : Int)) = true := by simp; omega
    go_enter Try.func13, Try.ntmps13
    go_wp2_with fail
    refine (validSpots_any A n c _ a _ h (by omega)).mono ?_
    rintro e w' ⟨rfl, rfl⟩
    go_wp2_with fail
    refine (validSpots_any A' n' c' _ b _ h' (by omega)).mono ?_
    rintro e w' ⟨rfl, rfl⟩
    go_wp2_with fail
    go_ret2
    exact ⟨_, _, _, by rw [Hr.out]; rfl, by omega, by rw [Hr.out]; exact Own.nil _ _ _ _, Below.refl _ _⟩

end Go.Proofs.Ytppbfdlgpehanaa
