/- Texts of numbers: the reference's decimal form (XTb without the table's part). -/
import Derived.Test.YtcacmiafmanniaaTa
import Derived.Test.YtcacmiafmanniaaS
import Derived.Lib.AppendIntMem
namespace Go.Proofs.Ytcacmiafmanniaa
open Go.RowKit
set_option maxRecDepth 100000
set_option linter.unusedVariables false
set_option linter.unusedSimpArgs false

theorem info_u8 : (Try.prog.info? 5).map (fun i => (i.zero, i.size, i.bytes)) = some (some (.int .u8 0), 1, 1) := by kernel_rfl
theorem ret_strT {x y : ByteArray} (h : x = y) : Ending.returned (.string x) = Ending.returned (.string y) := by rw [h]
theorem own_string {w : World} {B n c : Nat} {A : Option Addr} {l : List UInt8} (h : Own w B 5 1 A n c (u8s l)) : (convert 22 9 (.slice A n c)).run Try.prog w = .ok (.string ⟨l.toArray⟩) w := by
  have hl := h.len
  rw [u8s_len, Nat.mul_one] at hl
  rcases h.2 with ⟨e, h0⟩ | ⟨g, cap, cur, e, _⟩
  · injection e with e1 e2 e3
    subst e1; subst e2; subst e3
    have : l = [] := List.length_eq_zero_iff.1 hl
    subst this
    rfl
  · injection e with e1 e2 e3
    subst e1; subst e3
    rw [← hl]
    refine run_convert_bytes_back _ _ _ _ ⟨g, 0, none⟩ _ l Try.underlying22 Try.underlying5 Try.underlying9 (fun j hj => ?_)
    rw [Addr.add_lit, Nat.zero_add, Own.cellAt h (by omega)]
    simp [u8s, hj]

set_option maxHeartbeats 2000000 in
theorem l01Dec_nat {K : Nat} {w : World} (hK : K ≤ 1000000000000000000) :
    Calls Try.prog 37 #[.int .i64 (K : Int)] w fun e w' => e = .returned (.string (decA K)) ∧ Below w.heap.size w w' := by
  obtain ⟨i0, hi, hz0, hz1, hz2⟩ := info_parts info_u8
  by_cases hK0 : K = 0
  · subst hK0
    have Hr := Lib.hid decA_zero
    go_enter Try.func37, Try.ntmps37
    go_wp2_with fail
    go_ret
    exact ⟨ret_strT (by rw [Hr.out]), Below.refl _ _⟩
  have hne : ((K : Int) == 0) = false := by rw [beq_eq_false_iff_ne]; omega
  have hnl : ¬ ((K : Int) < 0) := by omega
  have HD := Lib.hid (revDec_dec K (by omega))
  have HLn := Lib.hid (revDec_len (u := K) (by omega) (by omega))
  have HK : Hid (K ≤ 1000000000000000000) := Lib.hid hK
  have ha0 := Own.empty w w.heap.size 5 1 (Nat.le_refl _)
  have hb0 : Below w.heap.size w (w.alloc (.cells #[] 5)) := (Below.refl _ _).alloc (Nat.le_refl _) _
  go_enter Try.func37, Try.ntmps37
  go_wp2_with fail
  go_loopg [3, 4] K (fun gk v3 v4 wr => ∃ (u : Nat) (l : List UInt8) (A : Option Addr) (c : Nat), gk = u ∧ v4 = .int .i64 (u : Int) ∧ v3 = .slice A l.length c ∧ l ++ revDec u = revDec K ∧ u ≤ K ∧ Own wr w.heap.size 5 1 A l.length c (u8s l) ∧ Below w.heap.size w wr)
  case atStart => exact ⟨K, [], _, _, rfl, rfl, rfl, rfl, Nat.le_refl _, ha0, hb0⟩
  case round =>
    clear ha0 hb0
    obtain ⟨u, l, A, c, hgk, rfl, rfl, hl, hu, ho, hb⟩ := hrel
    have Hgk := Lib.hid hgk
    have Hl := Lib.hid hl
    have hbs := hb.size
    have hll : l.length ≤ 20 := by have := HLn.out; rw [← hl, List.length_append] at this; omega
    clear hgk hl
    by_cases hu0 : u = 0
    · subst hu0
      have Hl2 : Hid (l = revDec K) := Lib.hid (by have := Hl.out; rwa [revDec_zero, List.append_nil] at this)
      have Hlen : Hid (l.reverse = Lib.decDigits K) := Lib.hid (by rw [Hl2.out]; exact HD.out)
      have hqn : IntKind.i64.wrap ((l.length : Int) - 1) = (l.length : Int) - 1 := IntWalk.i64_in _ (by omega)
      have Hor := Lib.hid ho.reads
      have hb2 : Below wr.heap.size wr (wr.alloc (.cells #[] 5)) := (Below.refl _ _).alloc (Nat.le_refl _) _
      have ha2 := Own.empty wr wr.heap.size 5 1 (Nat.le_refl _)
      have Hb1 := Lib.hid hb
      clear ho hb hbs Hl Hl2
      obtain ⟨W1, hW1⟩ : ∃ W1, W1 = wr := ⟨_, rfl⟩
      subst hW1
      have hbs1 := Hb1.out.size
      generalize hm : l.length = m at *
      have Hm := Lib.hid hm
      clear hm
      go_wp2_with fail
      go_loopg [6, 7] m (fun gk v6 v7 wx => ∃ (j : Nat) (A2 : Option Addr) (c2 : Nat), gk = j ∧ j ≤ m ∧ (∃ i : Int, Hid (i = (j : Int) - 1) ∧ v7 = .int .i64 i) ∧ v6 = .slice A2 (m - j) c2 ∧ Own wx W1.heap.size 5 1 A2 (m - j) c2 (u8s (l.reverse.take (m - j))) ∧ Below W1.heap.size W1 wx)
      case atStart => exact ⟨m, _, _, rfl, Nat.le_refl _, ⟨_, Lib.hid rfl, rfl⟩, by rw [Nat.sub_self], by rw [Nat.sub_self]; exact ha2, hb2⟩
      case round =>
        clear ha2 hb2
        obtain ⟨j, A2, c2, hgj, hjm, ⟨i, HI, rfl⟩, rfl, ho2, hb2⟩ := hrel
        have Hgj := Lib.hid hgj
        have hbs2 := hb2.size
        clear hgj
        by_cases hj0 : j = 0
        · subst hj0
          have hconv := own_string ho2
          rw [show l.reverse.take (m - 0) = Lib.decDigits K by rw [Nat.sub_zero, List.take_of_length_le (by rw [List.length_reverse, Hm.out]; exact Nat.le_refl _)]; exact Hlen.out, Nat.sub_zero] at hconv
          have hdd : ¬ (0 ≤ i) := by have := HI.out; omega
          go_wp2_with fail
          go_ret
          exact ⟨ret_strT rfl, Hb1.out.trans (hb2.mono hbs1)⟩
        · obtain ⟨ad, uv, hA, hblk, hx, hcell⟩ := Reads.at_ Hor.out (k := j - 1) (by omega)
          subst hA
          have hx2 : l[j - 1]? = some (l.reverse.getD (m - j) 0) := by
            have h1 : m - j < l.reverse.length := by rw [List.length_reverse, Hm.out]; omega
            rw [List.getD_eq_getElem?_getD, List.getElem?_eq_getElem h1, List.getElem_reverse]
            simp only [Option.getD_some]
            have e : l.length - 1 - (m - j) = j - 1 := by have := Hm.out; omega
            simp only [e]
            exact List.getElem?_eq_getElem _
          have huv : uv = .int .u8 ((l.reverse.getD (m - j) 0).toNat : Int) := by
            rw [u8s, List.getElem?_map, hx2] at hx
            simpa using hx.symm
          subst huv
          have Htk : Hid (u8s (l.reverse.take (m - j)) ++ [.int .u8 ((l.reverse.getD (m - j) 0).toNat : Int)] = u8s (l.reverse.take (m - j + 1))) := Lib.hid (by
            have h1 : m - j < l.reverse.length := by rw [List.length_reverse, Hm.out]; omega
            rw [List.take_add_one, List.getElem?_eq_getElem h1, u8s_append, List.getD_eq_getElem?_getD, List.getElem?_eq_getElem h1]
            rfl)
          generalize l.reverse.getD (m - j) 0 = by0 at *
          have hcell2 : wr.cell? (ad.add (j - 1)) = some (.int .u8 (by0.toNat : Int)) := (hb2.cell (by rw [block_of_add]; exact hblk)).trans hcell
          have hi1 := HI.out
          obtain rfl : i = ((j - 1 : Nat) : Int) := by omega
          have hdd2 : (0 : Int) ≤ ((j - 1 : Nat) : Int) := by omega
          have hdd3 : ((j - 1 : Nat) : Int) < (m : Int) := by omega
          have hq2 : IntKind.i64.wrap (((j - 1 : Nat) : Int) - 1) = ((j - 1 : Nat) : Int) - 1 := IntWalk.i64_in _ (by omega)
          have HJ : Hid (j = j - 1 + 1) := Lib.hid (by omega)
          generalize j - 1 = jp at *
          have hsz : W1.heap.size ≤ (wr.alloc (.cells #[.int .u8 (by0.toNat : Int)] 5)).heap.size := by simp; omega
          clear HI hi1 hj0
          go_wp2_with (at_builtin; refine wpList_app rfl _ _ 22 rfl 5 i0 _ 1 1 Try.underlying22 hi hz0 hz1 hz2 rfl (by omega) (by omega) W1.heap.size _ _ _ _ rfl (ho2.alloc _) ⟨wr.heap.size, 0, none⟩ 1 1 [.int .u8 (by0.toNat : Int)] rfl rfl (cell_one_new _ _ _) (by simp [Value.oneCell']) (by omega) hsz ?_)
          intro A3 c3 w3 ho3 hgA hbA hat
          have hmj : m - jp = m - j + 1 := by have := HJ.out; omega
          have ho4 : Own w3 W1.heap.size 5 1 A3 (m - jp) c3 (u8s (l.reverse.take (m - jp))) := by rw [hmj, ← Htk.out]; exact ho3
          have hb4 : Below W1.heap.size W1 w3 := (hb2.alloc hbs2 _).trans hbA
          have hgj := Hgj.out
          have hjj := HJ.out
          clear ho3 hgA hbA hat ho2 HJ
          go_wp2_with fail
          go_roundg jp
          case rel => exact ⟨jp, A3, c3, rfl, by omega, ⟨_, Lib.hid rfl, rfl⟩, by rw [hmj], ho4, hb4⟩
          case measure => omega
    · have hu1 : ((u : Int) != 0) = true := by simp; omega
      have hu2 : ¬ ((u : Int) % 10 < 0) := by omega
      have hu3 : 0 ≤ (u : Int) := by omega
      have hu4 : IntKind.i64.wrap (48 + (u : Int) % 10) = 48 + (u : Int) % 10 := IntWalk.i64_in _ (by omega)
      have hu5 : IntKind.u8.wrap (48 + (u : Int) % 10) = 48 + (u : Int) % 10 := by rw [IntKind.wrap_u8]; omega
      have Hn := Lib.hid (revDec_pos (u := u) (by omega))
      have Hd := Lib.hid (u8_digit u)
      have hsz : w.heap.size ≤ (wr.alloc (.cells #[.int .u8 (48 + (u : Int) % 10)] 5)).heap.size := by simp; omega
      go_wp2_with (at_builtin; refine wpList_app rfl _ _ 22 rfl 5 i0 _ 1 1 Try.underlying22 hi hz0 hz1 hz2 rfl (by omega) (by omega) w.heap.size _ _ _ _ rfl (ho.alloc _) ⟨wr.heap.size, 0, none⟩ 1 1 [.int .u8 (48 + (u : Int) % 10)] rfl rfl (cell_one_new _ _ _) (by simp [Value.oneCell']) (by omega) hsz ?_)
      intro A3 c3 w3 ho3 hgA hbA hat
      have ho4 : Own w3 w.heap.size 5 1 A3 (l ++ [UInt8.ofNat (48 + u % 10)]).length c3 (u8s (l ++ [UInt8.ofNat (48 + u % 10)])) := by
        rw [u8s_append, List.length_append]
        rw [← Hd.out] at ho3
        exact ho3
      have hb4 : Below w.heap.size w w3 := (hb.alloc hbs _).trans hbA
      have Hl3 : Hid ((l ++ [UInt8.ofNat (48 + u % 10)]) ++ revDec (u / 10) = revDec K) := Lib.hid (by rw [List.append_assoc]; rw [← Hl.out, Hn.out]; rfl)
      have hgk := Hgk.out
      clear ho3 hgA hbA hat ho
      go_wp2_with fail
      go_roundg (u / 10)
      case rel => exact ⟨u / 10, _, A3, c3, rfl, by go_num, by rw [List.length_append]; rfl, Hl3.out, by omega, ho4, hb4⟩
      case measure => omega

end Go.Proofs.Ytcacmiafmanniaa
