/- Ballast: the two sums of the law, round by round; the bit that the law takes of a list of bytes. -/
import Derived.Test.YtdighpgfepooaaaBp
import Derived.Test.YtdighpgfepooaaaBd
namespace Go.Proofs.Ytdighpgfepooaaa
open Go.RowKit
set_option maxRecDepth 100000
set_option linter.unusedVariables false
set_option linter.unusedSimpArgs false

structure SumP (ms cars : List Int) (k : Nat) (s0 s1 o0 o1 : Int) : Prop where
  s : zsum (ms.take k) (cars.take k) [0, 0] = [s0, s1]
  o : ∃ cs : List Int, cs.length = k ∧ cOk cs ∧ zsum (ms.take k) cs [0, 0] = [o0, o1]
  b0 : 0 ≤ s0 ∧ s0 ≤ 100000 * k
  b1 : 0 ≤ s1 ∧ s1 ≤ 100000 * k
  b2 : 0 ≤ o0 ∧ o0 ≤ 100000 * k
  b3 : 0 ≤ o1 ∧ o1 ≤ 100000 * k
theorem SumP.zero (ms cars : List Int) : SumP ms cars 0 0 0 0 0 :=
  ⟨by simp [zsum], ⟨[], rfl, (fun c h => by cases h), by simp [zsum]⟩, by omega, by omega, by omega, by omega⟩
theorem addTo_at (a b c x : Int) (hc : c = 0 ∨ c = 1) : addTo [a, b] c x = [nth (addTo [a, b] c x) 0, nth (addTo [a, b] c x) 1] ∧ (0 ≤ x → x ≤ 100000 → a ≤ nth (addTo [a, b] c x) 0 ∧ nth (addTo [a, b] c x) 0 ≤ a + 100000 ∧ b ≤ nth (addTo [a, b] c x) 1 ∧ nth (addTo [a, b] c x) 1 ≤ b + 100000) := by
  rcases hc with rfl | rfl
  · refine ⟨by simp [addTo, nth], fun h h2 => ?_⟩
    simp [addTo, nth]
    omega
  · refine ⟨by simp [addTo, nth], fun h h2 => ?_⟩
    simp [addTo, nth]
    omega
theorem SumP.next {ms cars : List Int} {k : Nat} {s0 s1 o0 o1 b : Int} (h : SumP ms cars k s0 s1 o0 o1) (hk : k < ms.length) (hc : k < cars.length) (hx : 0 ≤ nth ms k ∧ nth ms k ≤ 100000) (h1 : nth cars k = 0 ∨ nth cars k = 1) (h2 : b = 0 ∨ b = 1) :
    SumP ms cars (k + 1) (nth (addTo [s0, s1] (nth cars k) (nth ms k)) 0) (nth (addTo [s0, s1] (nth cars k) (nth ms k)) 1) (nth (addTo [o0, o1] b (nth ms k)) 0) (nth (addTo [o0, o1] b (nth ms k)) 1) := by
  obtain ⟨e1, e2⟩ := addTo_at s0 s1 (nth cars k) (nth ms k) h1
  obtain ⟨e3, e4⟩ := addTo_at o0 o1 b (nth ms k) h2
  have g1 := e2 hx.1 hx.2
  have g2 := e4 hx.1 hx.2
  have hb0 := h.b0
  have hb1 := h.b1
  have hb2 := h.b2
  have hb3 := h.b3
  obtain ⟨cs, l1, l2, l3⟩ := h.o
  refine ⟨?_, ⟨cs ++ [b], by simp [l1], ?_, ?_⟩, by omega, by omega, by omega, by omega⟩
  · rw [take_succ_nth hk, take_succ_nth hc, zsum_snoc _ _ _ _ _ (by simp; omega), h.s]
    exact e1
  · intro c hcm
    rcases List.mem_append.1 hcm with hcm | hcm
    · exact l2 c hcm
    · rw [List.mem_singleton] at hcm; rw [hcm]; exact h2
  · rw [take_succ_nth hk, zsum_snoc _ _ _ _ _ (by simp; omega), l3]
    exact e3
theorem bapart_absB (a b : Int) : bapart [a, b] = absB (a - b) := by unfold absB bapart; rfl
theorem SumP.fin {ms : List Int} {room : Int} {r : List Int × Int × Int} {n : Nat} {s0 s1 o0 o1 : Int} (hp : BalP ms room r) (h0 : r.2.2 = 0) (hn : ms.length = n) (h : SumP ms r.1 n s0 s1 o0 o1) :
    s0 ≤ room ∧ s1 ≤ room ∧ absB (s0 - s1) = r.2.1 ∧ (o0 ≤ room → o1 ≤ room → r.2.1 ≤ absB (o0 - o1)) := by
  obtain ⟨_, _, _, _, hl, hc, hz, hb⟩ := hp.fit h0
  have hs := h.s
  rw [List.take_of_length_le (by omega), List.take_of_length_le (by omega)] at hs
  obtain ⟨cs, l1, l2, l3⟩ := h.o
  rw [List.take_of_length_le (by omega)] at l3
  rw [hs] at hz hb
  refine ⟨hz.1, hz.2, by rw [← bapart_absB]; exact hb, fun g1 g2 => ?_⟩
  have := hp.best h0 cs (by omega) l2 (by rw [l3]; exact ⟨g1, g2⟩)
  rw [l3, bapart_absB] at this
  exact this
def bitAt (zs : List Int) (n k : Nat) : Int := if k < n then nth zs k % 2 else ((k : Int) * 37 + 11) % 2
theorem bitAt_two (zs : List Int) (n k : Nat) : bitAt zs n k = 0 ∨ bitAt zs n k = 1 := by unfold bitAt; split <;> omega
theorem b10AtV_any {A : Option Addr} {n c B : Nat} {zs : List Int} {k : Nat} {w : World} (hr : Bytz w B A n zs) (hn : n ≤ 1048576) (hk : k ≤ 1000) :
    Calls Try.prog 12 #[.slice A n c, .int .i64 k, .int .i64 2] w fun e w' => e = .returned (.int .i64 (bitAt zs n k)) ∧ w = w' := by
  have hk0 : (0 : Int) ≤ (k : Int) := by omega
  have q1 : IntKind.i64.wrap ((k : Int) * 37) = (k : Int) * 37 := IntWalk.i64_in _ (by omega)
  have q2 : IntKind.i64.wrap ((k : Int) * 37 + 11) = (k : Int) * 37 + 11 := IntWalk.i64_in _ (by omega)
  by_cases hkn : k < n
  · have HV : Hid (bitAt zs n k = nth zs k % 2) := Lib.hid (by unfold bitAt; rw [if_pos hkn])
    obtain ⟨ad, y, hA, hbl, hu, hcy⟩ := Reads.at_ hr.1 (k := k) hkn
    have hlen : zs.length = n := by have := hr.1.1; rw [List.length_map] at this; omega
    have hy : y = .int .u8 (nth zs k) := by
      rw [List.getElem?_map, getElem?_nth (by omega)] at hu
      simpa using hu.symm
    subst hy
    subst hA
    have hyb := hr.2 _ (nth_mem (zs := zs) (k := k) (by omega))
    generalize nth zs k = y at *
    have hmm : 0 ≤ y % 2 ∧ y % 2 < 2 := ⟨Int.emod_nonneg _ (by omega), Int.emod_lt_of_pos _ (by omega)⟩
    have hd1 : (k : Int) < (n : Int) := by omega
    go_enter Try.func12, Try.ntmps12
    go_wp2_with fail
    go_ret
    exact ⟨ret_int (by rw [HV.out]), rfl⟩
  · have HV : Hid (bitAt zs n k = ((k : Int) * 37 + 11) % 2) := Lib.hid (by unfold bitAt; rw [if_neg hkn])
    have hd1 : ¬ (k : Int) < (n : Int) := by omega
    go_enter Try.func12, Try.ntmps12
    go_wp2_with fail
    go_ret
    exact ⟨ret_int (by rw [HV.out]), rfl⟩
end Go.Proofs.Ytdighpgfepooaaa
