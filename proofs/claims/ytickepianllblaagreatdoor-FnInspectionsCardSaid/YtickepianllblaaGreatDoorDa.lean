/- The reference's source of choices (spec.l00Src): what its functions answer lies within bounds; nothing but the source turns. -/
import Derived.Test.YtickepianllblaaGreatDoorS
import Derived.Laws.BitsAllLaws
namespace Go.Proofs.YtickepianllblaaGreatDoor
open Go.RowKit
set_option maxRecDepth 100000
set_option linter.unusedVariables false
set_option linter.unusedSimpArgs false

/-- A number of 64 bits. -/
def U64 (z : Int) : Prop := 0 ≤ z ∧ z < 18446744073709551616
theorem u64_wrap (n : Int) : U64 (IntKind.u64.wrap n) := by
  rw [IntKind.wrap_u64]
  exact ⟨Int.emod_nonneg _ (by omega), Int.emod_lt_of_pos _ (by omega)⟩
/-- Block b holds a source over a slice of bytes, of which at most k were taken. -/
structure Src (w : World) (b : Nat) (A : Option Addr) (n c : Nat) (k : Nat) : Prop where
  code : w.cell? ⟨b, 0, none⟩ = some (.slice A n c)
  pos : ∃ a : Nat, a ≤ k ∧ w.cell? ⟨b, 1, none⟩ = some (.int .i64 a)
  seed : ∃ z : Int, U64 z ∧ w.cell? ⟨b, 2, none⟩ = some (.int .u64 z)
  frz : ∀ j, w.frozen? ⟨b, j, none⟩ = false
  lt : b < w.heap.size
theorem Src.below {w w' : World} {b B n c k : Nat} {A : Option Addr} (h : Src w b A n c k) (hb : Below B w w') (hB : b < B) : Src w' b A n c k := by
  obtain ⟨a, ha, hc⟩ := h.pos
  obtain ⟨z, hz, hd⟩ := h.seed
  exact ⟨(hb.cell (p := ⟨b, 0, none⟩) hB).trans h.code, ⟨a, ha, (hb.cell (p := ⟨b, 1, none⟩) hB).trans hc⟩, ⟨z, hz, (hb.cell (p := ⟨b, 2, none⟩) hB).trans hd⟩,
    fun j => (hb.frozen (p := ⟨b, j, none⟩) hB).trans (h.frz j), Nat.lt_of_lt_of_le h.lt hb.size⟩
theorem Src.more {w : World} {b n c k k' : Nat} {A : Option Addr} (h : Src w b A n c k) (hk : k ≤ k') : Src w b A n c k' := by
  obtain ⟨a, ha, hc⟩ := h.pos
  exact ⟨h.code, ⟨a, by omega, hc⟩, h.seed, h.frz, h.lt⟩
/-- Bytes. -/
def Bytz (w : World) (B : Nat) (A : Option Addr) (n : Nat) (zs : List Int) : Prop := Reads w B 1 A n (zs.map (Value.int .u8)) ∧ ∀ z ∈ zs, 0 ≤ z ∧ z ≤ 255
theorem Bytz.at_ {w : World} {B n k : Nat} {A : Option Addr} {zs : List Int} (h : Bytz w B A n zs) (hk : k < n) : ∃ ad z, A = some ad ∧ ad.block < B ∧ w.cell? (ad.add k) = some (.int .u8 z) ∧ 0 ≤ z ∧ z ≤ 255 := by
  obtain ⟨ad, u, e, hb, hx, hc⟩ := Reads.at_ h.1 hk
  rw [List.getElem?_map] at hx
  cases hz : zs[k]? with
  | none => rw [hz] at hx; cases hx
  | some z =>
    rw [hz] at hx
    have hx : Value.int .u8 z = u := by simpa using hx
    subst hx
    exact ⟨ad, z, e, hb, hc, h.2 z (List.mem_of_getElem? hz)⟩
theorem Bytz.below {w w' : World} {B B' n : Nat} {A : Option Addr} {zs : List Int} (h : Bytz w B A n zs) (hb : Below B' w w') (hB : B ≤ B') : Bytz w' B A n zs := ⟨Reads.below h.1 hb hB, h.2⟩
theorem Bytz.touch {w w' : World} {b B n : Nat} {A : Option Addr} {zs : List Int} (h : Bytz w B A n zs) (ht : Touch w w' (some ⟨b, 0, none⟩)) (hb : B ≤ b) (hB : B ≤ w.heap.size) : Bytz w' B A n zs :=
  h.below (ht.below (B := B) (fun a e => by injection e with e; subst e; exact hb) hB) (Nat.le_refl _)
theorem Touch.trans {w w' w2 : World} {A : Option Addr} (h : Touch w w' A) (h2 : Touch w' w2 A) : Touch w w2 A :=
  ⟨h2.os.trans h.os, h2.tape.trans h.tape, h2.output.trans h.output, Nat.le_trans h.size h2.size, fun k hk hn => (h2.block k (Nat.lt_of_lt_of_le hk h.size) hn).trans (h.block k hk hn)⟩
theorem and255 (x : Int) (h0 : 0 ≤ x) (h1 : x < 18446744073709551616) : bits BinOp.and IntKind.u64 x 255 = x % 256 := by
  obtain ⟨X, rfl⟩ := Int.eq_ofNat_of_zero_le h0
  have := u64_and_nat X 255 (by omega) (by omega)
  rw [nat_mask8] at this
  have e : ((255 : Nat) : Int) = 255 := rfl
  rw [e] at this
  rw [this]; omega

theorem byte_of {S : Int} (h : U64 S) : 0 ≤ wrap64 (bits BinOp.and IntKind.u64 (S / 1099511627776) 255) ∧ wrap64 (bits BinOp.and IntKind.u64 (S / 1099511627776) 255) ≤ 255 := by
  obtain ⟨h0, h1⟩ := h
  rw [and255 _ (by omega) (by omega)]
  unfold wrap64; omega
theorem src_cell {w : World} {b j j' : Nat} {v u u' : Value} (h : w.cell? ⟨b, j, none⟩ = some u) (h' : w.cell? ⟨b, j', none⟩ = some u') : (w.setCell ⟨b, j, none⟩ v).cell? ⟨b, j', none⟩ = some (if j' = j then v else u') := by
  by_cases e : j' = j
  · subst e; rw [if_pos rfl]; exact World.cell?_setCell_same _ _ _ h
  · rw [if_neg e, ← h']; exact World.cell?_setCell_other _ _ _ _ (fun x => by injection x with _ x; omega)
theorem src_set {w : World} {b n c k a : Nat} {A : Option Addr} {z : Int} (h : Src w b A n c k) (ha : a ≤ k) (hz : U64 z) (d e : Nat) :
    Src ((((w.drewN d).setCell ⟨b, 1, none⟩ (.int .i64 ((a : Int) + 1))).setCell ⟨b, 2, none⟩ (.int .u64 z)).drewN e) b A n c (k + 1) ∧
      Touch w ((((w.drewN d).setCell ⟨b, 1, none⟩ (.int .i64 ((a : Int) + 1))).setCell ⟨b, 2, none⟩ (.int .u64 z)).drewN e) (some ⟨b, 0, none⟩) := by
  obtain ⟨a0, _, c1⟩ := h.pos
  obtain ⟨z0, _, c2⟩ := h.seed
  have c0 := h.code
  have c1 : (w.drewN d).cell? ⟨b, 1, none⟩ = some (.int .i64 (a0 : Int)) := c1
  have c2 : (w.drewN d).cell? ⟨b, 2, none⟩ = some (.int .u64 z0) := c2
  have c0 : (w.drewN d).cell? ⟨b, 0, none⟩ = some (.slice A n c) := c0
  have d2 := src_cell (v := .int .i64 ((a : Int) + 1)) c1 c2
  refine ⟨⟨?_, ⟨a + 1, by omega, ?_⟩, ⟨z, hz, ?_⟩, fun j => ?_, ?_⟩, ?_⟩
  · exact src_cell d2 (src_cell c1 c0)
  · exact src_cell d2 (src_cell c1 c1)
  · exact src_cell d2 d2
  · show World.frozen? (((w.drewN d).setCell _ _).setCell _ _) _ = false
    rw [World.frozen?_setCell, World.frozen?_setCell]; exact h.frz j
  · simpa [World.setCell] using h.lt
  · exact ⟨rfl, rfl, rfl, by simp [World.setCell, World.drewN], fun k' hk' hn => by
      have hne : b ≠ k' := hn ⟨b, 0, none⟩ rfl
      exact (Below.heap_setCell _ _ _ _ (by simp; omega)).trans (Below.heap_setCell _ _ _ _ (by simp; omega))⟩

set_option maxHeartbeats 1000000 in
theorem next_any {b B n c k : Nat} {A : Option Addr} {zs : List Int} {w : World} (h : Src w b A n c k) (hr : Bytz w B A n zs) (hB : B ≤ b) (hn : n ≤ 140737488351232) (hk : k ≤ 1000000000) :
    Calls Tryz.prog 60 #[.pointer (some ⟨b, 0, none⟩)] w fun e w' => ∃ x : Int, e = .returned (.int .i64 x) ∧ 0 ≤ x ∧ x ≤ 255 ∧ Src w' b A n c (k + 1) ∧ Touch w w' (some ⟨b, 0, none⟩) := by
  obtain ⟨a, ha, c1⟩ := h.pos
  obtain ⟨z, hz, c2⟩ := h.seed
  have c0 := h.code
  have f1 := h.frz 1
  have f2 := h.frz 2
  have Hz := Lib.hid hz
  have hlt := h.lt
  have H := Lib.hid h
  clear h hz
  have hqa : IntKind.i64.wrap ((a : Int) + 1) = (a : Int) + 1 := IntWalk.i64_in _ (by omega)
  by_cases hin : a < n
  · obtain ⟨ad, y, rfl, hbl, hcy, hy0, hy1⟩ := hr.at_ hin
    have hd : decide (a < n) = true := by simpa using hin
    have hd0 : (0 : Int) ≤ (a : Int) := by omega
    have hd1 : (a : Int) < (n : Int) := by omega
    go_enter Tryz.func60, Tryz.ntmps60
    go_wp2_with fail
    go_quiet (fail)
    go_wp2_with fail
    go_quiet (fail)
    go_wp2_with fail
    go_quiet (fail)
    go_wp2_with fail
    go_ret
    exact ⟨y, rfl, hy0, hy1, (src_set H.out ha (u64_wrap _) _ _).1, (src_set H.out ha (u64_wrap _) _ _).2⟩
  · have hd : decide (a < n) = false := by simpa using hin
    go_enter Tryz.func60, Tryz.ntmps60
    go_wp2_with fail
    go_quiet (fail)
    go_wp2_with fail
    go_quiet (fail)
    go_wp2_with fail
    go_ret
    exact ⟨_, rfl, (byte_of (u64_wrap _)).1, (byte_of (u64_wrap _)).2, (src_set H.out ha (u64_wrap _) _ _).1, (src_set H.out ha (u64_wrap _) _ _).2⟩

theorem emod_le {x m : Int} (h : 0 ≤ x) (hm : 0 < m) : x % m ≤ x := by
  have h1 := Int.mul_ediv_add_emod x m
  have h2 := Int.mul_nonneg (show 0 ≤ m by omega) (Int.ediv_nonneg h (show 0 ≤ m by omega))
  omega
set_option maxHeartbeats 1000000 in
theorem pick_any {b B n c k : Nat} {A : Option Addr} {zs : List Int} {m : Int} {w : World} (h : Src w b A n c k) (hr : Bytz w B A n zs) (hB : B ≤ b) (hn : n ≤ 140737488351232) (hk : k ≤ 1000000) :
    Calls Tryz.prog 42 #[.pointer (some ⟨b, 0, none⟩), .int .i64 m] w fun e w' => ∃ x : Int, e = .returned (.int .i64 x) ∧ 0 ≤ x ∧ (x < m ∨ x = 0) ∧ x ≤ 65535 ∧ Src w' b A n c (k + 2) ∧ Touch w w' (some ⟨b, 0, none⟩) := by
  by_cases hm : m ≤ 1
  · go_enter Tryz.func42, Tryz.ntmps42
    go_wp2_with fail
    go_ret
    exact ⟨0, rfl, by omega, .inr rfl, by omega, h.more (by omega), Touch.refl _ _⟩
  have hlt := h.lt
  have H := Lib.hid h
  have Hr := Lib.hid hr
  have hB2 : B ≤ w.heap.size := by omega
  clear h hr
  go_enter Tryz.func42, Tryz.ntmps42
  go_wp2_with fail
  refine (next_any H.out Hr.out hB hn (by omega)).mono ?_
  rintro e w1 ⟨x, rfl, h0, h1, s1, t1⟩
  have Hs1 := Lib.hid s1
  have Ht1 := Lib.hid t1
  clear s1 t1
  have hmn : m ≠ 0 := by omega
  have hmm : 0 ≤ x % m ∧ x % m < m ∧ x % m ≤ x := ⟨Int.emod_nonneg _ hmn, Int.emod_lt_of_pos _ (by omega), emod_le h0 (by omega)⟩
  by_cases h2 : m ≤ 200
  · go_wp2_with fail
    go_ret
    exact ⟨x % m, rfl, hmm.1, .inl hmm.2.1, by omega, Hs1.out.more (by omega), Ht1.out⟩
  · go_wp2_with fail
    refine (next_any Hs1.out (Bytz.touch Hr.out Ht1.out hB hB2) hB hn (by omega)).mono ?_
    rintro e w2 ⟨y, rfl, g0, g1, s2, t2⟩
    have hmm2 : 0 ≤ (x * 256 + y) % m ∧ (x * 256 + y) % m < m ∧ (x * 256 + y) % m ≤ x * 256 + y := ⟨Int.emod_nonneg _ hmn, Int.emod_lt_of_pos _ (by omega), emod_le (by omega) (by omega)⟩
    have Hs2 := Lib.hid s2
    have Ht2 := Lib.hid t2
    clear s2 t2
    go_wp2_with fail
    go_ret
    exact ⟨(x * 256 + y) % m, rfl, hmm2.1, .inl hmm2.2.1, by omega, Hs2.out, Ht1.out.trans Ht2.out⟩
theorem among_any {b B n c k : Nat} {A A2 : Option Addr} {zs ys : List Int} {n2 c2 B2 : Nat} {w : World} (h : Src w b A n c k) (hr : Bytz w B A n zs) (hB : B ≤ b) (hn : n ≤ 140737488351232) (hk : k ≤ 1000000)
    (h2 : Ints w B2 A2 n2 ys) (hn2 : n2 ≤ 1048576) (h0 : 0 < n2) (hB2 : B2 ≤ w.heap.size) (hne : ∀ a, A2 = some a → a.block ≠ b) :
    Calls Tryz.prog 61 #[.pointer (some ⟨b, 0, none⟩), .slice A2 n2 c2] w fun e w' => ∃ x : Int, e = .returned (.int .i64 x) ∧ x ∈ ys ∧ Src w' b A n c (k + 2) ∧ Touch w w' (some ⟨b, 0, none⟩) := by
  have H := Lib.hid h
  have Hr := Lib.hid hr
  have H2 := Lib.hid h2
  have Hl := Lib.hid h2.len
  clear h hr h2
  go_enter Tryz.func61, Tryz.ntmps61
  go_wp2_with fail
  refine (pick_any (m := (n2 : Int)) H.out Hr.out hB hn hk).mono ?_
  rintro e w1 ⟨x, rfl, g0, g1, _, s1, t1⟩
  have x2 : x < (n2 : Int) := by omega
  obtain ⟨X, rfl⟩ := Int.eq_ofNat_of_zero_le g0
  obtain ⟨ad, rfl, hbl, hc⟩ := H2.out.at_ (k := X) (by omega)
  have hc1 : w1.cell? (ad.add X) = some (.int .i64 (nth ys X)) := by
    rw [World.cell?_of_block (t1.block (ad.add X).block (by rw [block_of_add]; omega) (fun a e => by injection e with e; subst e; rw [block_of_add]; exact (hne _ rfl).symm))]
    exact hc
  have Hm : Hid (nth ys X ∈ ys) := Lib.hid (nth_mem (by rw [Hl.out]; omega))
  have Hs1 := Lib.hid s1
  have Ht1 := Lib.hid t1
  clear s1 t1 g1 hc
  generalize nth ys X = y at *
  go_wp2_with fail
  go_ret
  exact ⟨y, rfl, Hm.out, Hs1.out, Ht1.out⟩
theorem from_any {n c : Nat} {A : Option Addr} {w : World} :
    Calls Tryz.prog 22 #[.slice A n c] w fun e w' => e = .returned (.pointer (some ⟨w.heap.size, 0, none⟩)) ∧ Src w' w.heap.size A n c 0 ∧ Below w.heap.size w w' := by
  go_enter Tryz.func22, Tryz.ntmps22
  go_wp2_with fail
  go_ret
  exact ⟨rfl, ⟨by simp, ⟨0, by omega, by simp⟩, ⟨0, ⟨by omega, by omega⟩, by simp⟩, fun j => by simp, by simp⟩, (Below.refl _ _).alloc (Nat.le_refl _) _⟩
end Go.Proofs.YtickepianllblaaGreatDoor
