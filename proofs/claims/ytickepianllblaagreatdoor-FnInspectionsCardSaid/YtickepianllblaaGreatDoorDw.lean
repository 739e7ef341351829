/- The reference's draw of inspections: the whole list. -/
import Derived.Test.YtickepianllblaaGreatDoorDv
import Derived.Test.YtickepianllblaaGreatDoorCi
import Derived.Test.YtickepianllblaaGreatDoorFa
namespace Go.Proofs.YtickepianllblaaGreatDoor
open Go.RowKit
set_option maxRecDepth 100000
set_option linter.unusedVariables false
set_option linter.unusedSimpArgs false

def cNames : List ByteArray := [⟨#[98, 114, 97, 107, 101]⟩, ⟨#[100, 111, 111, 114]⟩, ⟨#[114, 111, 112, 101]⟩, ⟨#[115, 104, 111, 101]⟩, ⟨#[119, 104, 101, 101, 108]⟩]
def cName (j : Nat) : ByteArray := cNames.getD j ⟨#[]⟩
theorem lt_five {j : Nat} (h : j < 5) : j = 0 ∨ j = 1 ∨ j = 2 ∨ j = 3 ∨ j = 4 := by omega
theorem cName_ok : ∀ j, j < 5 → nameB (cName j) = true := by
  intro j hj
  rcases lt_five hj with rfl | rfl | rfl | rfl | rfl <;> kernel_rfl
theorem cName_lt : ∀ j, j < 5 → ∀ i, i < j → sLt (cName i) (cName j) = true := by
  intro j hj i hi
  rcases lt_five hj with rfl | rfl | rfl | rfl | rfl <;> rcases lt_five (show i < 5 by omega) with rfl | rfl | rfl | rfl | rfl <;> first | (exfalso; omega) | kernel_rfl
/-- Of what was drawn among the first i names. -/
structure OkC (i : Nat) (l : List CheckR) : Prop where
  bd : ∀ k, k < l.length → BoundC (CheckR.at_ l k)
  nm : ∀ k, k < l.length → ∃ j, j < i ∧ (CheckR.at_ l k).Id = cName j
  lt : ∀ k, k + 1 < l.length → ∃ j1 j2, j1 < j2 ∧ j2 < i ∧ (CheckR.at_ l k).Id = cName j1 ∧ (CheckR.at_ l (k + 1)).Id = cName j2
  len : l.length ≤ i
theorem OkC.none : OkC 0 [] := ⟨fun k hk => absurd hk (by simp), fun k hk => absurd hk (by simp), fun k hk => absurd hk (by simp), by simp⟩
theorem OkC.skip {i : Nat} {l : List CheckR} (h : OkC i l) : OkC (i + 1) l :=
  ⟨h.bd, fun k hk => by obtain ⟨j, h1, h2⟩ := h.nm k hk; exact ⟨j, by omega, h2⟩, fun k hk => by obtain ⟨j1, j2, h1, h2, h3, h4⟩ := h.lt k hk; exact ⟨j1, j2, h1, by omega, h3, h4⟩, by have := h.len; omega⟩
theorem at_snoc_lt {l : List CheckR} {x : CheckR} {k : Nat} (hk : k < l.length) : CheckR.at_ (l ++ [x]) k = CheckR.at_ l k := by
  show (l ++ [x]).getD k _ = l.getD k _
  rw [List.getD_eq_getElem?_getD, List.getElem?_append_left hk, List.getD_eq_getElem?_getD]
theorem at_snoc_eq {l : List CheckR} {x : CheckR} : CheckR.at_ (l ++ [x]) l.length = x := by
  show (l ++ [x]).getD l.length _ = x
  rw [List.getD_eq_getElem?_getD, List.getElem?_append_right (Nat.le_refl _)]
  simp
theorem OkC.snoc {i : Nat} {l : List CheckR} {x : CheckR} (h : OkC i l) (hx : BoundC x) (hid : x.Id = cName i) : OkC (i + 1) (l ++ [x]) := by
  have hl : (l ++ [x]).length = l.length + 1 := by simp
  refine ⟨fun k hk => ?_, fun k hk => ?_, fun k hk => ?_, by have := h.len; omega⟩
  · by_cases e : k = l.length
    · subst e; rw [at_snoc_eq]; exact hx
    · rw [at_snoc_lt (by omega)]; exact h.bd k (by omega)
  · by_cases e : k = l.length
    · subst e; rw [at_snoc_eq]; exact ⟨i, by omega, hid⟩
    · rw [at_snoc_lt (by omega)]
      obtain ⟨j, h1, h2⟩ := h.nm k (by omega)
      exact ⟨j, by omega, h2⟩
  · by_cases e : k + 1 = l.length
    · rw [e, at_snoc_eq, at_snoc_lt (by omega)]
      obtain ⟨j, h1, h2⟩ := h.nm k (by omega)
      exact ⟨j, i, h1, by omega, h2, hid⟩
    · rw [at_snoc_lt (by omega), at_snoc_lt (by omega)]
      obtain ⟨j1, j2, h1, h2, h3, h4⟩ := h.lt k (by omega)
      exact ⟨j1, j2, h1, by omega, h3, h4⟩
theorem OkC.all {l : List CheckR} (h : OkC 5 l) : checkBAll l = true := by
  unfold checkBAll
  rw [Bool.and_eq_true]
  refine ⟨allTo_true.2 (fun k hk => ?_), decide_eq_true (by have := h.len; omega)⟩
  unfold checkBAt
  rw [Bool.and_eq_true]
  constructor
  · have hb := h.bd k hk
    obtain ⟨j, hj, he⟩ := h.nm k hk
    unfold BoundC at hb
    simp only [checkB, Bool.and_eq_true, inB_true, he, cName_ok j hj, true_and]
    omega
  · rcases Nat.eq_zero_or_pos k with e | e
    · subst e; rfl
    · obtain ⟨j1, j2, h1, h2, h3, h4⟩ := h.lt (k - 1) (by omega)
      rw [show k - 1 + 1 = k by omega] at h4
      rw [h3, h4, cName_lt j2 h2 j1 h1, Bool.or_true]
theorem check_one (x : CheckR) : ∀ u ∈ x.cells, u.oneCell' = true := by
  intro u hu
  simp only [CheckR.cells, List.mem_cons, List.not_mem_nil, or_false] at hu
  rcases hu with rfl | rfl | rfl | rfl | rfl <;> rfl
theorem own_farC {w w' : World} {B e s n c b : Nat} {A : Option Addr} {xs : List Value} (h : Own w B e s A n c xs) (t : Touch w w' (some ⟨b, 0, none⟩)) (hb : b < B) : Own w' B e s A n c xs :=
  h.touch t (by intro a a' e e'; injection e with e; subst e; have := (h.block_lt a' e').2.2.1; simp only; omega)
theorem cells_newC (w : World) (xs : List Value) (t : TypeId) : ∀ j u, xs[j]? = some u → (w.alloc (.cells xs.toArray t)).cell? ((⟨w.heap.size, 0, none⟩ : Addr).add j) = some u := by
  intro j u hu
  rw [Addr.add_lit, Nat.zero_add]
  simpa using hu

def offC (A : Option Addr) (nb : Nat) : Prop := ∀ a, A = some a → a.block ≠ nb
/-- The state of the draw: a list, the names that are gone through. -/
structure CTS (B b n c k : Nat) (A : Option Addr) (zs : List Int) (w : World) (nb : Nat) (A5 : Option Addr) (c5 : Nat) (l : List CheckR) (wx : World) : Prop where
  o5 : Own wx w.heap.size 39 5 A5 l.length c5 (l.flatMap CheckR.cells)
  d : DS B b A n c zs w wx k
  nm : HC wx nb (cNames.map Value.string)
  f5 : offC A5 nb
  hb : b < w.heap.size
  hnb : w.heap.size ≤ nb
section
variable {B b n c k : Nat} {A : Option Addr} {zs : List Int} {w wx wy : World} {nb : Nat} {A5 : Option Addr} {c5 : Nat} {l : List CheckR}
theorem CTS.call (h : CTS B b n c k A zs w nb A5 c5 l wx) {k' : Nat} (d : DS B b A n c zs w wy k') (t : Touch wx wy (some ⟨b, 0, none⟩)) : CTS B b n c k' A zs w nb A5 c5 l wy :=
  ⟨own_farC h.o5 t h.hb, d, h.nm.touch1 t (by have := h.hb; have := h.hnb; omega), h.f5, h.hb, h.hnb⟩
theorem CTS.app (h : CTS B b n c k A zs w nb A5 c5 l wx) {o : Obj} {A3 : Option Addr} {c3 : Nat} {X : CheckR} (ho : Own wy w.heap.size 39 5 A3 (l.length + 1) c3 (l.flatMap CheckR.cells ++ X.cells)) (hg : (wx.alloc o).grownBy wy (A5.map (·.block))) (hB : Below w.heap.size (wx.alloc o) wy)
    (hat : A3.map (·.block) = A5.map (·.block) ∨ ∃ a, A3 = some a ∧ a.block = wx.heap.size + 1) : CTS B b n c k A zs w nb A3 c3 (l ++ [X]) wy :=
  have hb5 : Below w.heap.size wx wy := (((Below.refl wx.heap.size wx).alloc (Nat.le_refl _) _).mono h.d.sz).trans hB
  ⟨by rw [List.flatMap_append, List.length_append, List.flatMap_singleton]; exact ho, h.d.belowD (hb5.mono h.hb) hb5, (h.nm.alloc1 _).grown hg h.f5, (by
      intro a e
      rcases hat with e2 | ⟨y, e2, e3⟩
      · subst e
        cases A5 with
        | none => cases e2
        | some z =>
          have e2 : a.block = z.block := by simpa using e2
          rw [e2]; exact h.f5 z rfl
      · rw [e2] at e
        injection e with e
        subst e
        have := h.nm.lt
        omega), h.hb, h.hnb⟩
theorem CTS.name (h : CTS B b n c k A zs w nb A5 c5 l wx) {i : Nat} (hi : i < 5) : wx.cell? ⟨nb, i, none⟩ = some (.string (cName i)) := by
  refine h.nm.at_ i _ ?_
  have hl : cNames.length = 5 := rfl
  rw [List.getElem?_map, List.getElem?_eq_getElem (by omega)]
  unfold cName
  rw [List.getD_eq_getElem?_getD, List.getElem?_eq_getElem (by omega)]
  rfl
end
def DrawCs (b : Nat) (w : World) (e : Ending) (w' : World) : Prop := ∃ (A2 : Option Addr) (c2 : Nat) (l : List CheckR), e = .returned (.slice A2 l.length c2) ∧ OkC 5 l ∧ Own w' w.heap.size 39 5 A2 l.length c2 (l.flatMap CheckR.cells) ∧ Touch w w' (some ⟨b, 0, none⟩)
set_option maxHeartbeats 4000000 in
theorem l21Draw_any {B b n c k : Nat} {A : Option Addr} {zs : List Int} {w0 w : World} (h : DS B b A n c zs w0 w k) (hk : k ≤ 1000) :
    Calls Tryz.prog 23 #[.pointer (some ⟨b, 0, none⟩)] w (DrawCs b w) := by
  obtain ⟨i0, hi, hz0, hz1, hz2⟩ := info_parts info_Check
  have hbw := h.lt
  have S1 : Hid (CTS B b n c k A zs w w.heap.size (some ⟨w.heap.size + 1, 0, none⟩) 0 [] ((w.alloc (.cells #[.string ⟨#[98, 114, 97, 107, 101]⟩, .string ⟨#[100, 111, 111, 114]⟩, .string ⟨#[114, 111, 112, 101]⟩, .string ⟨#[115, 104, 111, 101]⟩, .string ⟨#[119, 104, 101, 101, 108]⟩] 9)).alloc (.cells #[] 39))) := Lib.hid (by
    have e1 : (w.alloc (.cells #[.string ⟨#[98, 114, 97, 107, 101]⟩, .string ⟨#[100, 111, 111, 114]⟩, .string ⟨#[114, 111, 112, 101]⟩, .string ⟨#[115, 104, 111, 101]⟩, .string ⟨#[119, 104, 101, 101, 108]⟩] 9)).heap.size = w.heap.size + 1 := by simp
    refine ⟨?_, ((DS.mk0 h.src h.bz h.hB h.hn).allocD _).allocD _, (hc_new w (cNames.map Value.string) _).alloc1 _, (fun a e => by injection e with e; subst e; simp only; omega), hbw, Nat.le_refl _⟩
    rw [← e1]
    exact (Own.empty _ _ 39 5 (Nat.le_refl _)).mono (by rw [e1]; omega))
  clear h
  go_enter Tryz.func23, Tryz.ntmps23
  go_wp2_with fail
  generalize (w.alloc (.cells #[.string ⟨#[98, 114, 97, 107, 101]⟩, .string ⟨#[100, 111, 111, 114]⟩, .string ⟨#[114, 111, 112, 101]⟩, .string ⟨#[115, 104, 111, 101]⟩, .string ⟨#[119, 104, 101, 101, 108]⟩] 9)).alloc (.cells #[] 39) = w1 at *
  go_loopg [4, 5] 5 (fun gk vo vi wr => ∃ (i : Nat) (A5 : Option Addr) (c5 kk : Nat) (l : List CheckR), i ≤ 5 ∧ gk + i = 5 ∧ vi = .int .i64 (i : Int) ∧ vo = .slice A5 l.length c5 ∧ OkC i l ∧ kk ≤ k + 20 * i ∧ CTS B b n c kk A zs w w.heap.size A5 c5 l wr)
  case atStart => exact ⟨0, _, 0, k, [], by omega, by omega, rfl, rfl, OkC.none, by omega, S1.out⟩
  case round =>
    clear S1
    obtain ⟨i, A5, c5, kk, l, hil, hgk, rfl, rfl, hok, hkk, hs⟩ := hrel
    have Hgk := Lib.hid hgk
    have S := Lib.hid hs
    have Hok := Lib.hid hok
    have hll := hok.len
    clear hgk hs hok
    have hi0' : (0 : Int) ≤ (i : Int) := by omega
    have qi : IntKind.i64.wrap ((i : Int) + 1) = (i : Int) + 1 := IntWalk.i64_in _ (by omega)
    by_cases hlt : i < 5
    · have hi1' : (i : Int) < 5 := by omega
      go_wp2_with fail
      refine (S.out.d.pick (by omega) 3).mono ?_
      rintro e w3 ⟨x, rfl, x0, _, _, d3, t3⟩
      have S3 := Lib.hid (S.out.call d3 t3)
      have hnm := S3.out.name hlt
      obtain ⟨nm, hnmE⟩ : ∃ nm, cName i = nm := ⟨_, rfl⟩
      have HnE := Lib.hid hnmE
      rw [hnmE] at hnm
      clear d3 t3 S hnmE
      by_cases hx : 0 < x
      · go_wp2_with fail
        refine (l21DrawOne_any (id := nm) S3.out.d (by omega)).mono ?_
        rintro e w4 ⟨r1, r2, r3, r4, rfl, hbd, d4, t4⟩
        have S4 := Lib.hid (S3.out.call d4 t4)
        have Hbd := Lib.hid hbd
        have hsz4 : w.heap.size ≤ (w4.alloc (.cells #[.string nm, .int .i64 r1, .int .i64 r2, .int .i64 r3, .int .i64 r4] 39)).heap.size := by have := d4.sz; simp; omega
        clear d4 t4 S3 hnm hbd
        go_wp2_with (at_builtin; refine wpList_app rfl _ _ 24 rfl 39 i0 _ 5 48 Tryz.underlying24 hi hz0 hz1 hz2 rfl (by omega) (by omega) w.heap.size _ _ _ _ rfl (S4.out.o5.alloc _) ⟨w4.heap.size, 0, none⟩ 1 1 (⟨nm, r1, r2, r3, r4⟩ : CheckR).cells rfl rfl (cells_newC _ _ _) (check_one _) (by omega) hsz4 ?_)
        intro A3 c3 w5 ho3 hgA hbA hat
        have S5 := Lib.hid (S4.out.app (X := ⟨nm, r1, r2, r3, r4⟩) ho3 hgA hbA hat)
        clear ho3 hgA hbA hat S4
        go_wp2_with fail
        have hgk := Hgk.out
        go_roundg (gk - 1)
        case rel => exact ⟨i + 1, A3, c3, _, l ++ [⟨nm, r1, r2, r3, r4⟩], by omega, by omega, by go_num, by rw [List.length_append]; rfl, Hok.out.snoc Hbd.out HnE.out.symm, by omega, S5.out⟩
        case measure => omega
      · go_wp2_with fail
        have hgk := Hgk.out
        go_roundg (gk - 1)
        case rel => exact ⟨i + 1, A5, c5, kk + 2, l, by omega, by omega, by go_num, rfl, Hok.out.skip, by omega, S3.out⟩
        case measure => omega
    · have hi1' : ¬ (i : Int) < 5 := by omega
      have hie : i = 5 := by omega
      have HF : Hid (DrawCs b w (.returned (.slice A5 l.length c5)) wr) := Lib.hid ⟨A5, c5, l, rfl, hie ▸ Hok.out, S.out.o5, S.out.d.t⟩
      clear S Hok hie
      go_wp2_with fail
      exact bodyPost_ret (v := .slice A5 l.length c5) (by simp [results, Tryz.results23, go_sem]) rfl HF.out
def ChecksD (w : World) (e : Ending) (w' : World) : Prop := ∃ (A2 : Option Addr) (c2 : Nat) (l : List CheckR), e = .returned (.slice A2 l.length c2) ∧ OkC 5 l ∧ Own w' w.heap.size 39 5 A2 l.length c2 (l.flatMap CheckR.cells) ∧ Below w.heap.size w w'
set_option maxHeartbeats 2000000 in
theorem r8Checks_any {n c : Nat} {A : Option Addr} {zs : List Int} {w : World} (hr : Bytz w w.heap.size A n zs) (hn : n ≤ 1048576) :
    Calls Tryz.prog 5 #[.slice A n c] w (ChecksD w) := by
  have Hr := Lib.hid hr
  clear hr
  go_enter Tryz.func5, Tryz.ntmps5
  go_wp2_with fail
  refine (from_any (n := n) (c := c) (A := A) (w := w)).mono ?_
  rintro e v1 ⟨rfl, s1, b1⟩
  have D1 := Lib.hid (DS.mk0 s1 (Bytz.below Hr.out b1 (Nat.le_refl _)) (Nat.le_refl _) (by omega))
  have HB1 := Lib.hid b1
  have hlt1 := s1.lt
  clear s1 b1 Hr
  go_wp2_with fail
  refine (l21Draw_any D1.out (by omega)).mono ?_
  rintro e v2 ⟨A2, c2, l, rfl, hok, o2, t2⟩
  have HF : Hid (ChecksD w (.returned (.slice A2 l.length c2)) v2) := Lib.hid ⟨A2, c2, l, rfl, hok, o2.mono (by omega), HB1.out.trans (t2.bel (Nat.le_of_lt hlt1))⟩
  clear hok o2 t2 D1
  go_wp2_with fail
  exact bodyPost_ret (v := .slice A2 l.length c2) (by simp [results, Tryz.results5, go_sem]) rfl HF.out
theorem r8Wide_any {A : Option Addr} {n c B : Nat} {zs : List Int} {k : Nat} {m : Int} {w : World} (hr : Bytz w B A n zs) (hn : n ≤ 1048576) (hk : k ≤ 900) (hm : 0 < m ∧ m ≤ 100000) :
    Calls Tryz.prog 7 #[.slice A n c, .int .i64 k, .int .i64 m] w fun e w' => ∃ x : Int, e = .returned (.int .i64 x) ∧ 0 ≤ x ∧ x < m ∧ w = w' := by
  have H1 := Lib.hid (r8At_any (c := c) (k := k) (m := 256) hr hn (by omega))
  have H2 := Lib.hid (r8At_any (c := c) (k := k + 1) (m := 256) hr hn (by omega))
  have hk1 : IntKind.i64.wrap ((k : Int) + 1) = ((k + 1 : Nat) : Int) := by rw [IntWalk.i64_in _ (by omega)]; omega
  have hm0 : ¬ m = 0 := by omega
  go_enter Tryz.func7, Tryz.ntmps7
  go_wp2_with fail
  refine H1.out.mono ?_
  rintro e w' ⟨x, rfl, x0, x1, rfl⟩
  have hx : x < 256 := by omega
  have q1 : IntKind.i64.wrap (256 * x) = 256 * x := IntWalk.i64_in _ (by omega)
  go_wp2_with fail
  refine H2.out.mono ?_
  rintro e w' ⟨y, rfl, y0, y1, rfl⟩
  have hy : y < 256 := by omega
  have q2 : IntKind.i64.wrap (256 * x + y) = 256 * x + y := IntWalk.i64_in _ (by omega)
  have q3 : 0 ≤ (256 * x + y) % m ∧ (256 * x + y) % m < m := ⟨Int.emod_nonneg _ hm0, Int.emod_lt_of_pos _ hm.1⟩
  have q4 : IntKind.i64.wrap ((256 * x + y).tmod m) = (256 * x + y) % m := by
    rw [Int.tmod_eq_emod_of_nonneg (by omega)]; exact IntWalk.i64_in _ (by omega)
  have q5 : IntKind.i64.wrap ((256 * x + y) % m) = (256 * x + y) % m := IntWalk.i64_in _ (by omega)
  clear x1 y1
  go_wp2_with fail
  go_ret
  exact ⟨(256 * x + y) % m, rfl, q3.1, q3.2, rfl⟩
end Go.Proofs.YtickepianllblaaGreatDoor
