/- Helpers: what the law of tasks reckons by itself: sums of minutes, whether a name is in a list. -/
import Derived.Test.YtcacmiafmanniaaMl
import Derived.Test.YtcacmiafmanniaaMk
namespace Go.Proofs.Ytcacmiafmanniaa
open Go.RowKit
set_option maxRecDepth 100000
set_option linter.unusedVariables false
set_option linter.unusedSimpArgs false

theorem sumH_take {l : List HelperR} {cs : List Nat} {k : Nat} (h : k < cs.length) : sumH l (cs.take (k + 1)) = sumH l (cs.take k) + mnH l (cs.getD k 0) := by
  unfold sumH
  rw [List.take_add_one, List.getElem?_eq_getElem h, List.map_append, List.sum_append]
  simp [List.getD, List.getElem?_eq_getElem h]
theorem mnH_int {l : List HelperR} (h : helperBAll l = true) {k : Nat} (hk : k < l.length) : ((mnH l k : Nat) : Int) = (HelperR.at_ l k).Minutes ∧ mnH l k ≤ 1000 := by
  have := helpers_min h k hk
  unfold mnH
  omega
/-- What is left of the sums: one filling, its places in bounds. -/
theorem okF_place {l : List HelperR} {tl : List TaskR} {cs : List Nat} (h : okF l tl [] cs) : cs.length = tl.length ∧ ∀ i, i < cs.length → cs.getD i 0 < l.length := by
  obtain ⟨h1, h2⟩ := okF_at l tl [] cs h
  exact ⟨h1, fun i hi => (csH_memL (h2 i hi).1).1⟩
def insB (ks : List ByteArray) (x : ByteArray) : Bool := ks.any (fun y => y.toList == x.toList)
theorem keys_from {l : List HelperR} {tl : List TaskR} {y : ByteArray} : ∀ n, y ∈ keysTo l tl n → ∃ j, j < n ∧ y = (HelperR.at_ l j).Id ∧ mfill (csH (l.take j ++ l.drop (j + 1))) tl 0 < mfill (csH l) tl 0 := by
  intro n
  induction n with
  | zero => intro h; simp [keysTo] at h
  | succ n ih =>
    intro h
    rw [keysTo_succ, List.mem_append] at h
    rcases h with h | h
    · obtain ⟨j, h1, h2⟩ := ih h
      exact ⟨j, by omega, h2⟩
    · split at h
      · rename_i hlt
        rw [List.mem_singleton] at h
        exact ⟨n, by omega, h, hlt⟩
      · cases h
theorem keys_ins {l : List HelperR} {tl : List TaskR} (h : helperBAll l = true) {k : Nat} (hk : k < l.length) : insB (keysTo l tl l.length) (HelperR.at_ l k).Id = decide (mfill (csH (l.take k ++ l.drop (k + 1))) tl 0 < mfill (csH l) tl 0) := by
  by_cases hc : mfill (csH (l.take k ++ l.drop (k + 1))) tl 0 < mfill (csH l) tl 0
  · rw [decide_eq_true hc]
    unfold insB
    rw [List.any_eq_true]
    exact ⟨_, (keys_mem h hk l.length (Nat.le_refl _)).2 ⟨hk, hc⟩, beq_self_eq_true _⟩
  · rw [decide_eq_false hc]
    unfold insB
    rw [List.any_eq_false]
    intro y hy he
    obtain ⟨j, h1, rfl, h2⟩ := keys_from l.length hy
    have hj : eqH l (HelperR.at_ l k).Id j = true := he
    have hs : eqH l (HelperR.at_ l k).Id k = true := by unfold eqH; exact beq_self_eq_true _
    rcases Nat.lt_trichotomy j k with hlt | heq | hlt
    · rw [one_onlyH h hlt hk hj] at hs; cases hs
    · subst heq; exact hc h2
    · rw [one_onlyH h hlt h1 hs] at hj; cases hj
theorem keysTo_size {l : List HelperR} {tl : List TaskR} (h : ∀ x ∈ l, x.Id.size ≤ 1048576) : ∀ y ∈ keysTo l tl l.length, y.size ≤ 1048576 := by
  intro y hy
  obtain ⟨j, h1, rfl, _⟩ := keys_from l.length hy
  have e : HelperR.at_ l j = l[j] := by simp [HelperR.at_, List.getD, List.getElem?_eq_getElem h1]
  rw [e]
  exact h _ (List.getElem_mem h1)
theorem b10Inside_any {A : Option Addr} {n c B : Nat} {ks : List ByteArray} {x : ByteArray} {w : World} (h : Reads w B 1 A n (ks.map Value.string)) (hn : n ≤ 1048576) :
    Calls Try.prog 14 #[.slice A n c, .string x] w fun e w' => e = .returned (.bool (insB ks x)) ∧ w = w' := by
  have HL : Hid (ks.length = n) := Lib.hid (by have := h.1; rw [List.length_map] at this; omega)
  go_enter Try.func14, Try.ntmps14
  go_wp2_with fail
  go_loopg [5] n (fun gk vi wr => ∃ i : Nat, i ≤ n ∧ gk + i = n ∧ vi = .int .i64 (i : Int) ∧ (ks.take i).any (fun y => y.toList == x.toList) = false ∧ w = wr)
  case atStart => exact ⟨0, by omega, by omega, rfl, by simp, rfl⟩
  case round =>
    obtain ⟨i, hil, hgk, rfl, hall, rfl⟩ := hrel
    have Hgk := Lib.hid hgk
    have Hall := Lib.hid hall
    clear hgk hall
    have hi0 : (0 : Int) ≤ (i : Int) := by omega
    have qi : IntKind.i64.wrap ((i : Int) + 1) = (i : Int) + 1 := IntWalk.i64_in _ (by omega)
    by_cases hlt : i < n
    · obtain ⟨ad, u, hA, hbl, hu, hc⟩ := Reads.at_ h hlt
      have hil2 : i < ks.length := by rw [HL.out]; exact hlt
      have hu2 : u = .string (ks.getD i ⟨#[]⟩) := by
        rw [List.getElem?_map, List.getElem?_eq_getElem hil2] at hu
        simp [List.getD, List.getElem?_eq_getElem hil2] at hu ⊢
        exact hu.symm
      subst hu2
      subst hA
      have HT : Hid ((ks.take (i + 1)).any (fun y => y.toList == x.toList) = ((ks.take i).any (fun y => y.toList == x.toList) || ((ks.getD i ⟨#[]⟩).toList == x.toList))) := Lib.hid (by
        rw [List.take_add_one, List.getElem?_eq_getElem hil2, List.any_append]
        simp [List.getD, List.getElem?_eq_getElem hil2])
      have HY : Hid ((ks.getD i ⟨#[]⟩).toList == x.toList → insB ks x = true) := Lib.hid (fun he => by
        unfold insB
        rw [List.any_eq_true]
        refine ⟨_, ?_, he⟩
        simp only [List.getD, List.getElem?_eq_getElem hil2, Option.getD_some]
        exact List.getElem_mem hil2)
      have hi1 : (i : Int) < (n : Int) := by omega
      clear hu
      generalize ks.getD i ⟨#[]⟩ = y at *
      cases he : (y.toList == x.toList) with
      | true =>
        have HR := Lib.hid (HY.out he)
        clear HY HT
        go_wp2_with fail
        go_ret
        exact ⟨ret_bool (by rw [HR.out]), rfl⟩
      | false =>
        have HN : Hid ((ks.take (i + 1)).any (fun y => y.toList == x.toList) = false) := Lib.hid (by rw [HT.out, Hall.out, he]; rfl)
        clear HY HT
        go_wp2_with fail
        have hgk := Hgk.out
        go_roundg (gk - 1)
        case rel => exact ⟨i + 1, by omega, by omega, by go_num, HN.out, rfl⟩
        case measure => omega
    · have HR : Hid (insB ks x = false) := Lib.hid (by have := Hall.out; rwa [List.take_of_length_le (by rw [HL.out]; omega)] at this)
      have hi1 : ¬ (i : Int) < (n : Int) := by omega
      go_wp2_with fail
      go_ret
      exact ⟨ret_bool (by rw [HR.out]), rfl⟩
end Go.Proofs.Ytcacmiafmanniaa
