/- Helpers: KeepsTasks: contracts of both sides. -/
import Derived.Test.YtcacmiafmanniaaHd
namespace Go.Proofs.Ytcacmiafmanniaa
open Go.RowKit
set_option maxRecDepth 100000
set_option linter.unusedVariables false
set_option linter.unusedSimpArgs false

def okAt (l : List HelperR) (tl : List TaskR) (zs : List Int) (i : Nat) : Bool := inB (nth zs i) 0 ((l.length : Int) - 1) && (!((zs.take i).any (fun y => nth zs i == y)) && canB (HelperR.at_ l (nth zs i).toNat) (TaskR.at_ tl i))
theorem headI {w : World} {B n k : Nat} {A : Option Addr} {zs : List Int} (h : Ints w B A n zs) (hk : k ≤ n) : Ints w B A k (zs.take k) := by
  have := Reads.head h hk
  rw [Nat.mul_one, ← List.map_take] at this
  exact this

set_option maxHeartbeats 2000000 in
theorem l24Fills_any {A A' A'' : Option Addr} {n c B n' c' B' nt ct B'' : Nat} {l : List HelperR} {tl : List TaskR} {zs : List Int} {w : World} (h : Reads w B 3 A n (l.flatMap HelperR.cells)) (hB : B ≤ w.heap.size) (hn : n ≤ 1048576)
    (ht : Reads w B'' 3 A'' nt (tl.flatMap TaskR.cells)) (hB'' : B'' ≤ w.heap.size) (hnt : nt ≤ 1048576) (h' : Ints w B' A' n' zs) (hB' : B' ≤ w.heap.size) (hc' : n' ≤ c') (hn' : n' ≤ 1048576) :
    Calls Try.prog 26 #[.slice A n c, .slice A'' nt ct, .slice A' n' c'] w fun e w' => e = .returned (.bool (allTo (okAt l tl zs) n' && decide (n' = nt))) ∧ Below w.heap.size w w' := by
  have HL := Lib.hid (HelperR.count h)
  have HL' := Lib.hid h'.len
  have hqn : IntKind.i64.wrap ((n : Int) - 1) = (n : Int) - 1 := IntWalk.i64_in _ (by omega)
  go_enter Try.func26, Try.ntmps26
  go_wp2_with fail
  go_loopg [7] n' (fun gk i wr => ∃ k : Nat, k ≤ n' ∧ k ≤ nt ∧ gk + k = n' ∧ i = .int .i64 k ∧ Below w.heap.size w wr ∧ allTo (okAt l tl zs) k = true)
  case atStart => exact ⟨0, Nat.zero_le _, Nat.zero_le _, rfl, rfl, Below.refl _ _, rfl⟩
  case round =>
    obtain ⟨k, hk, hkt, hgk, rfl, hb, hall⟩ := hrel
    have Hgk := Lib.hid hgk
    have Hall := Lib.hid hall
    have hbs := hb.size
    clear hgk hall
    by_cases hlt : k < n'
    · by_cases hltt : k < nt
      · obtain ⟨ad', rfl, hbl', hcz⟩ := Ints.at_ (Reads.below h' hb hB') hlt
        obtain ⟨adt, rfl, hblt, q0, q1, q2⟩ := TaskR.rd (Reads.below ht hb hB'') hltt
        have hhd := headI (Reads.below h' hb hB') hk
        have Hok : Hid (okAt l tl zs k = (inB (nth zs k) 0 ((n : Int) - 1) && (!((zs.take k).any (fun y => nth zs k == y)) && canB (HelperR.at_ l (nth zs k).toNat) (TaskR.at_ tl k)))) := Lib.hid (by rw [okAt, HL.out])
        generalize nth zs k = z at *
        have hk0 : (0 : Int) ≤ (k : Int) := by omega
        have hk1 : (k : Int) < (n' : Int) := by omega
        have hk2 : (k : Int) < (nt : Int) := by omega
        have hkc : (k : Int) ≤ (c' : Int) := by omega
        have hqk : IntKind.i64.wrap ((k : Int) + 1) = (k : Int) + 1 := IntWalk.i64_in _ (by omega)
        cases v1 : inB z 0 ((n : Int) - 1) with
        | false =>
          have cA : ∀ d, Calls Try.prog 47 #[.int .i64 z, .int .i64 0, .int .i64 ((n : Int) - 1)] (wr.drewN d) fun e w'' => e = .returned (.bool false) ∧ ∃ m, w'' = wr.drewN m := fun d => by
            have := quiet_left (in_any z 0 ((n : Int) - 1) (wr.drewN d)); rw [v1] at this; exact this
          have Ho : Hid (okAt l tl zs k = false) := Lib.hid (by rw [Hok.out, v1]; rfl)
          go_wp2_with fail
          go_quiet (with_reducible exact cA _)
          go_wp2_with fail
          go_ret
          exact ⟨ret_bool (by rw [allTo_false hlt Ho.out]; rfl), below_drewN hb _⟩
        | true =>
        have hz := inB_true.1 v1
        have cA : ∀ d, Calls Try.prog 47 #[.int .i64 z, .int .i64 0, .int .i64 ((n : Int) - 1)] (wr.drewN d) fun e w'' => e = .returned (.bool true) ∧ ∃ m, w'' = wr.drewN m := fun d => by
          have := quiet_left (in_any z 0 ((n : Int) - 1) (wr.drewN d)); rw [v1] at this; exact this
        cases v2 : (zs.take k).any (fun y => z == y) with
        | true =>
          have cH : ∀ d, Calls Try.prog 24 #[.slice (some ad') k c', .int .i64 z] (wr.drewN d) fun e w'' => e = .returned (.bool true) ∧ ∃ m, w'' = wr.drewN m := fun d => by
            have := quiet_left (l00Has_any (c := c') (v := z) (w := wr.drewN d) hhd (by omega)); rw [v2] at this; exact this
          have Ho : Hid (okAt l tl zs k = false) := Lib.hid (by rw [Hok.out, v1, v2]; rfl)
          clear v1 v2
          go_wp2_with fail
          go_quiet (first | with_reducible exact cA _ | with_reducible exact cH _)
          go_wp2_with fail
          go_ret
          exact ⟨ret_bool (by rw [allTo_false hlt Ho.out]; rfl), below_drewN hb _⟩
        | false =>
        have cH : ∀ d, Calls Try.prog 24 #[.slice (some ad') k c', .int .i64 z] (wr.drewN d) fun e w'' => e = .returned (.bool false) ∧ ∃ m, w'' = wr.drewN m := fun d => by
          have := quiet_left (l00Has_any (c := c') (v := z) (w := wr.drewN d) hhd (by omega)); rw [v2] at this; exact this
        obtain ⟨Z, rfl⟩ := Int.eq_ofNat_of_zero_le hz.1
        have hZ : Z < n := by omega
        have hZ1 : (Z : Int) < (n : Int) := by omega
        have hZ2 : (Z : Int).toNat = Z := by omega
        rw [hZ2] at Hok
        obtain ⟨ad, rfl, hbl, p0, p1, p2⟩ := HelperR.rd (Reads.below h hb hB) hZ
        cases v3 : canB (HelperR.at_ l Z) (TaskR.at_ tl k) with
        | false =>
          have cC : ∀ d, Calls Try.prog 25 #[.pointer (some (ad.add (Z * 3))), .pointer (some (adt.add (k * 3)))] (wr.drewN d) fun e w'' => e = .returned (.bool false) ∧ ∃ m, w'' = wr.drewN m := fun d => by
            have := quiet_draw (l24Can_any (w := wr.drewN d) p0 p1 p2 q0 q1 q2); rw [v3] at this; exact this
          have Ho : Hid (okAt l tl zs k = false) := Lib.hid (by rw [Hok.out, v1, v2, v3]; rfl)
          clear v1 v2 v3 p0 p1 p2 q0 q1 q2
          go_wp2_with fail
          go_quiet (first | with_reducible exact cA _ | with_reducible exact cH _ | with_reducible exact cC _)
          go_wp2_with fail
          go_ret
          exact ⟨ret_bool (by rw [allTo_false hlt Ho.out]; rfl), below_drewN hb _⟩
        | true =>
          have cC : ∀ d, Calls Try.prog 25 #[.pointer (some (ad.add (Z * 3))), .pointer (some (adt.add (k * 3)))] (wr.drewN d) fun e w'' => e = .returned (.bool true) ∧ ∃ m, w'' = wr.drewN m := fun d => by
            have := quiet_draw (l24Can_any (w := wr.drewN d) p0 p1 p2 q0 q1 q2); rw [v3] at this; exact this
          have Ho : Hid (okAt l tl zs k = true) := Lib.hid (by rw [Hok.out, v1, v2, v3]; rfl)
          clear v1 v2 v3 p0 p1 p2 q0 q1 q2
          go_wp2_with fail
          go_quiet (first | with_reducible exact cA _ | with_reducible exact cH _ | with_reducible exact cC _)
          go_wp2_with fail
          have hgk := Hgk.out
          go_roundg (gk - 1)
          case rel => exact ⟨k + 1, by omega, by omega, by omega, by go_num, below_drewN hb _, by rw [allTo_succ, Hall.out, Ho.out]; rfl⟩
          case measure => omega
      · have hkt2 : k = nt := by omega
        have d1 : ((n' : Int) == (nt : Int)) = false := by simp; omega
        have Hd : Hid (decide (n' = nt) = false) := Lib.hid (decide_eq_false (by omega))
        have hk2 : ¬ (k : Int) < (nt : Int) := by omega
        have hk2' : decide ((k : Int) < (nt : Int)) = false := by simp; omega
        have hk1 : (k : Int) < (n' : Int) := by omega
        go_wp2_with fail
        go_ret
        exact ⟨ret_bool (by rw [Hd.out, Bool.and_false]), hb⟩
    · have hke : k = n' := by omega
      subst hke
      have hd : ¬ (k : Int) < (k : Int) := by omega
      by_cases he : k = nt
      · have d1 : ((k : Int) == (nt : Int)) = true := by simp; omega
        have Hd : Hid (decide (k = nt) = true) := Lib.hid (decide_eq_true he)
        clear he
        go_wp2_with fail
        go_ret
        exact ⟨ret_bool (by rw [Hd.out, Hall.out]; rfl), hb⟩
      · have d1 : ((k : Int) == (nt : Int)) = false := by simp; omega
        have Hd : Hid (decide (k = nt) = false) := Lib.hid (decide_eq_false he)
        clear he
        go_wp2_with fail
        go_ret
        exact ⟨ret_bool (by rw [Hd.out, Bool.and_false]), hb⟩
end Go.Proofs.Ytcacmiafmanniaa
