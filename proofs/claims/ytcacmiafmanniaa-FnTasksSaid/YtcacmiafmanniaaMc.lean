/- Helpers: how many tasks can be filled, by changing others' tasks: contracts of the reference's side. -/
import Derived.Test.YtcacmiafmanniaaMb
namespace Go.Proofs.Ytcacmiafmanniaa
open Go.RowKit
set_option maxRecDepth 100000
set_option linter.unusedVariables false
set_option linter.unusedSimpArgs false

theorem own_someM {w : World} {B e size n c : Nat} {A : Option Addr} {xs : List Value} (h : Own w B e size A n c xs) (hn : 0 < n) : ∃ g, A = some ⟨g, 0, none⟩ ∧ B ≤ g ∧ g < w.heap.size := by
  cases A with
  | none => have := h.none_n; omega
  | some a =>
    obtain ⟨h1, h2, h3, h4⟩ := h.block_lt a rfl
    obtain ⟨b, o, s⟩ := a
    simp only at h1 h2 h3 h4
    subst h1; subst h2
    exact ⟨b, rfl, h3, h4⟩
/-- Helper h can do task i. -/
def cB (l : List HelperR) (tl : List TaskR) (h i : Nat) : Bool := canB (HelperR.at_ l h) (TaskR.at_ tl i) && decide (i < tl.length)
theorem ints_get {o : List Int} {k : Nat} (h : k < o.length) : (o.map (Value.int .i64))[k]? = some (.int .i64 (o.getD k (-1))) := by
  rw [List.getElem?_map, List.getElem?_eq_getElem h]; simp [List.getD, List.getElem?_eq_getElem h]
theorem bools_get {o : List Bool} {k : Nat} (h : k < o.length) : (o.map Value.bool)[k]? = some (.bool (o.getD k true)) := by
  rw [List.getElem?_map, List.getElem?_eq_getElem h]; simp [List.getD, List.getElem?_eq_getElem h]

set_option maxHeartbeats 2000000 in
theorem give_any : ∀ (f : Nat) (A A'' Ao As : Option Addr) (n c B nt ct co cs : Nat) (l : List HelperR) (tl : List TaskR) (o : List Int) (s : List Bool) (t : Nat) (w : World) (h : Reads w B 3 A n (l.flatMap HelperR.cells)) (hB : B ≤ w.heap.size) (hn : n ≤ 1048576)
    (h'' : Reads w B 3 A'' nt (tl.flatMap TaskR.cells)) (hnt : nt ≤ 1048576) (ht : t < nt)
    (ho : Own w B 3 1 Ao n co (o.map (Value.int .i64))) (hs : Own w B 4 1 As n cs (s.map Value.bool)) (hap : Apart Ao As) (hv : OwnV (cB l tl) n o) (hf : s.count false < f),
    Calls Try.prog 46 #[.slice A n c, .slice A'' nt ct, .slice Ao n co, .slice As n cs, .int .i64 t] w fun e w' => e = .returned (.bool (gv (cB l tl) n f o s t).1) ∧
      Own w' B 3 1 Ao n co ((gv (cB l tl) n f o s t).2.1.map (Value.int .i64)) ∧ Own w' B 4 1 As n cs ((gv (cB l tl) n f o s t).2.2.map Value.bool) ∧ Below B w w' := by
  intro f
  induction f with
  | zero => intro A A'' Ao As n c B nt ct co cs l tl o s t w h hB hn h'' hnt ht ho hs hap hv hf; omega
  | succ f ih =>
    intro A A'' Ao As n c B nt ct co cs l tl o s t w h hB hn h'' hnt ht ho hs hap hv hf
    have HL := Lib.hid (HelperR.count h)
    have HL'' := Lib.hid (TaskR.count h'')
    have hlo : o.length = n := by have := ho.len; simpa using this
    have hls : s.length = n := by have := hs.len; simpa using this
    have hgv : gv (cB l tl) n (f + 1) o s t = gvLoop (gv (cB l tl) n f) (cB l tl) n t n o s := rfl
    rw [hgv]
    clear hgv
    generalize hR : gvLoop (gv (cB l tl) n f) (cB l tl) n t n o s = R
    have Ih := Lib.hid ih
    clear ih
    have HR := Lib.hid hR
    have Hhv := Lib.hid hv
    have Hlo := Lib.hid hlo
    have Hls := Lib.hid hls
    clear hR hv hlo hls
    go_enter Try.func46, Try.ntmps46
    go_wp2_with fail
    go_loopg [11] n (fun gk vi wr => ∃ (k : Nat) (o1 : List Int) (s1 : List Bool), k ≤ n ∧ gk + k = n ∧ vi = .int .i64 k ∧ gvLoop (gv (cB l tl) n f) (cB l tl) n t (n - k) o1 s1 = R ∧
      Own wr B 3 1 Ao n co (o1.map (Value.int .i64)) ∧ Own wr B 4 1 As n cs (s1.map Value.bool) ∧ OwnV (cB l tl) n o1 ∧ s1.count false < f + 1 ∧ Below B w wr)
    case atStart => exact ⟨0, o, s, by omega, by omega, rfl, HR.out, ho, hs, Hhv.out, hf, Below.refl _ _⟩
    case round =>
      clear ho hs hf HR Hhv Hlo Hls
      obtain ⟨k, o1, s1, hk, hgk, rfl, hR, ho, hs, hv, hf, hb⟩ := hrel
      have Hgk := Lib.hid hgk
      have Hv := Lib.hid hv
      have hlo : o1.length = n := by have := ho.len; simpa using this
      have hls : s1.length = n := by have := hs.len; simpa using this
      have Hlo := Lib.hid hlo
      have Hls := Lib.hid hls
      have hbs := hb.size
      clear hgk hv
      by_cases hlt : k < n
      · obtain ⟨ad, rfl, hbl, p0, p1, p2⟩ := HelperR.rd (h.below hb (Nat.le_refl _)) hlt
        obtain ⟨adt, rfl, hblt, q0, q1, q2⟩ := TaskR.rd (h''.below hb (Nat.le_refl _)) ht
        obtain ⟨go, rfl, hgo1, hgo2⟩ := own_someM ho (by omega)
        obtain ⟨gs, rfl, hgs1, hgs2⟩ := own_someM hs (by omega)
        have hne : gs ≠ go := fun e => hap _ _ rfl rfl e.symm
        rw [gvLoop_at _ _ _ _ _ hlt] at hR
        have Hc : Hid (cB l tl k t = canB (HelperR.at_ l k) (TaskR.at_ tl t)) := Lib.hid (by rw [cB, decide_eq_true (by rw [HL''.out]; exact ht), Bool.and_true])
        rw [Hc.out] at hR
        have cs0 : wr.cell? ⟨gs, k, none⟩ = some (.bool (s1.getD k true)) := by rw [hs.cellAt (by omega)]; exact bools_get (by omega)
        have co0 : wr.cell? ⟨go, k, none⟩ = some (.int .i64 (o1.getD k (-1))) := by rw [ho.cellAt (by omega)]; exact ints_get (by omega)
        have hk0 : (0 : Int) ≤ (k : Int) := by omega
        have hk1 : (k : Int) < (n : Int) := by omega
        have ht0 : (0 : Int) ≤ (t : Int) := by omega
        have ht1 : (t : Int) < (nt : Int) := by omega
        have hqk : IntKind.i64.wrap ((k : Int) + 1) = (k : Int) + 1 := IntWalk.i64_in _ (by omega)
        clear hlo hls
        cases hsk : s1.getD k true with
        | true =>
          rw [hsk] at cs0 hR
          have HR := Lib.hid (show gvLoop (gv (cB l tl) n f) (cB l tl) n t (n - (k + 1)) o1 s1 = R from hR)
          clear hR hsk co0
          go_wp2_with fail
          go_quiet (fail)
          go_wp2_with fail
          have hgk := Hgk.out
          go_roundg (gk - 1)
          case rel => exact ⟨k + 1, o1, s1, by omega, by omega, by go_num, HR.out, own_drewN ho _, own_drewN hs _, Hv.out, hf, below_drewN hb _⟩
          case measure => omega
        | false =>
          rw [hsk] at cs0 hR
          have cC : ∀ d, Calls Try.prog 25 #[.pointer (some (ad.add (k * 3))), .pointer (some (adt.add (t * 3)))] (wr.drewN d) fun e w'' => e = .returned (.bool (canB (HelperR.at_ l k) (TaskR.at_ tl t))) ∧ ∃ m, w'' = wr.drewN m := fun d => quiet_draw (l24Can_any (x := HelperR.at_ l k) (t := TaskR.at_ tl t) (w := wr.drewN d) p0 p1 p2 q0 q1 q2)
          cases hcb : canB (HelperR.at_ l k) (TaskR.at_ tl t) with
          | false =>
            rw [hcb] at cC hR
            have HR := Lib.hid (show gvLoop (gv (cB l tl) n f) (cB l tl) n t (n - (k + 1)) o1 s1 = R from hR)
            clear hR hsk co0 p0 p1 p2 q0 q1 q2 hcb
            go_wp2_with fail
            go_quiet (with_reducible exact cC _)
            go_wp2_with fail
            have hgk := Hgk.out
            go_roundg (gk - 1)
            case rel => exact ⟨k + 1, o1, s1, by omega, by omega, by go_num, HR.out, own_drewN ho _, own_drewN hs _, Hv.out, hf, below_drewN hb _⟩
            case measure => omega
          | true =>
            rw [hcb] at cC hR
            simp only [Bool.not_true, Bool.or_false, Bool.false_eq_true, if_false] at hR
            have HR := Lib.hid hR
            have Hsk := Lib.hid hsk
            clear hR hsk hcb
            have fs := hs.frozenAt (j := k)
            have fo := ho.frozenAt (j := k)
            have hne' : go ≠ gs := fun e => hne e.symm
            have HS : Hid (∀ d, Own ((wr.drewN d).setCell ⟨gs, k, none⟩ (.bool true)) B 4 1 (some ⟨gs, 0, none⟩) n cs ((s1.set k true).map Value.bool) ∧
                Own ((wr.drewN d).setCell ⟨gs, k, none⟩ (.bool true)) B 3 1 (some ⟨go, 0, none⟩) n co (o1.map (Value.int .i64)) ∧ Below B w ((wr.drewN d).setCell ⟨gs, k, none⟩ (.bool true))) := Lib.hid (fun d => by
              have h1 := (own_drewN hs d).stored (j := k) (.bool true)
              rw [← List.map_set] at h1
              exact ⟨h1.1, (own_drewN ho d).grown (a := ⟨gs, k, none⟩) h1.2 (fun x hx => by injection hx with hx; subst hx; exact hne'), (below_drewN hb d).setCell hgs1 _⟩)
            rcases Hv.out k hlt with hm1 | ⟨x, hx, hcx⟩
            · rw [hm1] at co0
              have hRR : (true, o1.set k (t : Int), s1.set k true) = R := by have := HR.out; rw [hm1] at this; exact this
              subst hRR
              have HF : Hid (∀ d, Own (((wr.drewN d).setCell ⟨gs, k, none⟩ (.bool true)).setCell ⟨go, k, none⟩ (.int .i64 t)) B 4 1 (some ⟨gs, 0, none⟩) n cs ((s1.set k true).map Value.bool) ∧
                  Own (((wr.drewN d).setCell ⟨gs, k, none⟩ (.bool true)).setCell ⟨go, k, none⟩ (.int .i64 t)) B 3 1 (some ⟨go, 0, none⟩) n co ((o1.set k (t : Int)).map (Value.int .i64)) ∧
                  Below B w (((wr.drewN d).setCell ⟨gs, k, none⟩ (.bool true)).setCell ⟨go, k, none⟩ (.int .i64 t))) := Lib.hid (fun d => by
                obtain ⟨a1, a2, a3⟩ := HS.out d
                have h1 := a2.stored (j := k) (.int .i64 t)
                rw [← List.map_set] at h1
                exact ⟨a1.grown (a := ⟨go, k, none⟩) h1.2 (fun x hx => by injection hx with hx; subst hx; exact hne), h1.1, a3.setCell hgo1 _⟩)
              clear hm1 HR Hsk ho hs
              go_wp2_with fail
              go_quiet (with_reducible exact cC _)
              go_wp2_with fail
              go_ret
              exact ⟨rfl, by rw [← List.map_set]; exact (HF.out _).2.1, by rw [← List.map_set]; exact (HF.out _).1, (HF.out _).2.2⟩
            · have hxt : x < nt := by
                have : decide (x < tl.length) = true := by rw [cB, Bool.and_eq_true] at hcx; exact hcx.2
                have := of_decide_eq_true this
                rw [HL''.out] at this; exact this
              rw [hx] at co0
              obtain ⟨hun, _⟩ := un_set s1 k Hsk.out
              have Hok := Lib.hid (gv_ok (cB l tl) n f o1 (s1.set k true) x Hlo.out (by have := Hls.out; simpa using this) Hv.out (by omega))
              have HC : Hid (∀ d, Calls Try.prog 46 #[.slice (some ad) n c, .slice (some adt) nt ct, .slice (some ⟨go, 0, none⟩) n co, .slice (some ⟨gs, 0, none⟩) n cs, .int .i64 x] ((wr.drewN d).setCell ⟨gs, k, none⟩ (.bool true)) fun e w' => e = .returned (.bool (gv (cB l tl) n f o1 (s1.set k true) x).1) ∧
                  Own w' B 3 1 (some ⟨go, 0, none⟩) n co ((gv (cB l tl) n f o1 (s1.set k true) x).2.1.map (Value.int .i64)) ∧ Own w' B 4 1 (some ⟨gs, 0, none⟩) n cs ((gv (cB l tl) n f o1 (s1.set k true) x).2.2.map Value.bool) ∧ Below B ((wr.drewN d).setCell ⟨gs, k, none⟩ (.bool true)) w') :=
                Lib.hid (fun d => by
                  obtain ⟨a1, a2, a3⟩ := HS.out d
                  exact Ih.out _ _ _ _ _ _ _ _ _ _ _ _ _ _ _ _ _ (h.below a3 (Nat.le_refl _)) (Nat.le_trans hB a3.size) hn (h''.below a3 (Nat.le_refl _)) hnt hxt a2 a1 hap Hv.out (by omega))
              have hRR : (if (gv (cB l tl) n f o1 (s1.set k true) x).1 then (true, (gv (cB l tl) n f o1 (s1.set k true) x).2.1.set k (t : Int), (gv (cB l tl) n f o1 (s1.set k true) x).2.2)
                  else gvLoop (gv (cB l tl) n f) (cB l tl) n t (n - (k + 1)) (gv (cB l tl) n f o1 (s1.set k true) x).2.1 (gv (cB l tl) n f o1 (s1.set k true) x).2.2) = R := by
                have := HR.out
                rw [hx, if_neg (show ¬ ((x : Nat) : Int) < 0 by omega)] at this
                exact this
              have hun2 : (gv (cB l tl) n f o1 (s1.set k true) x).2.2.count false < f + 1 := by
                have := un_mono (s := s1.set k true) (s' := (gv (cB l tl) n f o1 (s1.set k true) x).2.2) (by rw [Hok.out.lenS]; have := Hls.out; simpa using this) Hok.out.mono
                omega
              have hov := Lib.hid Hok.out.valid
              have hlr : (gv (cB l tl) n f o1 (s1.set k true) x).2.1.length = n := Hok.out.lenO
              have hx0 : ¬ ((x : Nat) : Int) < 0 := by omega
              clear HR Hok hx hcx hun Ih
              generalize gv (cB l tl) n f o1 (s1.set k true) x = r at *
              obtain ⟨rb, ro, rs⟩ := r
              simp only at hRR HC hun2 hov hlr
              have Hlr := Lib.hid hlr
              have HRR := Lib.hid hRR
              clear hRR hlr Hsk ho hs
              go_wp2_with fail
              go_quiet (with_reducible exact cC _)
              go_wp2_with fail
              refine (HC.out _).mono ?_
              rintro e w4 ⟨rfl, ho4, hs4, hb4⟩
              have hb5 := (HS.out _).2.2.trans hb4
              have fo4 := ho4.frozenAt (j := k)
              have co4 : w4.cell? ⟨go, k, none⟩ = some (.int .i64 (ro.getD k (-1))) := by rw [ho4.cellAt (by omega)]; exact ints_get (by rw [Hlr.out]; exact hlt)
              generalize ro.getD k (-1) = z4 at co4
              cases rb with
              | true =>
                have h1 := ho4.stored (j := k) (.int .i64 t)
                rw [← List.map_set] at h1
                have hs5 := hs4.grown (a := ⟨go, k, none⟩) h1.2 (fun x hx => by injection hx with hx; subst hx; exact hne)
                have hb6 := hb5.setCell (p := ⟨go, k, none⟩) hgo1 (.int .i64 t)
                have ho5 := h1.1
                have hRR : (true, ro.set k (t : Int), rs) = R := HRR.out
                subst hRR
                clear h1 ho4 hs4 hb4 hb5 HRR HC HS
                have Hf := Lib.hid (And.intro ho5 (And.intro hs5 hb6))
                clear ho5 hs5 hb6
                go_wp2_with fail
                go_ret
                exact ⟨rfl, by rw [← List.map_set]; exact Hf.out.1, Hf.out.2.1, Hf.out.2.2⟩
              | false =>
                have hRR := Lib.hid (show gvLoop (gv (cB l tl) n f) (cB l tl) n t (n - (k + 1)) ro rs = R from HRR.out)
                clear hb4 HRR HC HS
                go_wp2_with fail
                have hgk := Hgk.out
                go_roundg (gk - 1)
                case rel => exact ⟨k + 1, ro, rs, by omega, by omega, by go_num, hRR.out, ho4, hs4, hov.out, hun2, hb5⟩
                case measure => omega
      · have hke : n = k := by omega
        subst hke
        have hd : ¬ (n : Int) < (n : Int) := by omega
        rw [Nat.sub_self] at hR
        have hRR : (false, o1, s1) = R := hR
        subst hRR
        clear hR
        go_wp2_with fail
        go_ret
        exact ⟨rfl, ho, hs, hb⟩

theorem info_boolM : (Try.prog.info? 4).map (fun i => (i.zero, i.size, i.bytes)) = some (some (.bool false), 1, 1) := by kernel_rfl
theorem info_intM : (Try.prog.info? 3).map (fun i => (i.zero, i.size, i.bytes)) = some (some (.int .i64 0), 1, 8) := by kernel_rfl
/-- Who may not be asked. -/
def seen0 (n : Nat) (wo : Int) : List Bool := if 0 ≤ wo then (List.replicate n false).set wo.toNat true else List.replicate n false
theorem seen0_len (n : Nat) (wo : Int) : (seen0 n wo).length = n := by unfold seen0; split <;> simp

set_option maxHeartbeats 2000000 in
theorem most_any {A A'' : Option Addr} {n c B nt ct B'' : Nat} {l : List HelperR} {tl : List TaskR} {wo : Int} {w : World} (h : Reads w B 3 A n (l.flatMap HelperR.cells)) (hB : B ≤ w.heap.size) (hn : n ≤ 1048576)
    (h'' : Reads w B'' 3 A'' nt (tl.flatMap TaskR.cells)) (hB'' : B'' ≤ w.heap.size) (hnt : nt ≤ 1048576) (hwo : wo < 0 ∨ (0 ≤ wo ∧ wo < n)) :
    Calls Try.prog 23 #[.slice A n c, .slice A'' nt ct, .int .i64 wo] w fun e w' => e = .returned (.int .i64 ((kuhn (cB l tl) n (seen0 n wo) nt).2 : Nat)) ∧ Below w.heap.size w w' := by
  obtain ⟨i0, hi, hz0, hz1, hz2⟩ := info_parts info_intM
  obtain ⟨i1, hi', hz0', hz1', hz2'⟩ := info_parts info_boolM
  have h1 := h.more hB
  have h1'' := h''.more hB''
  go_enter Try.func23, Try.ntmps23
  go_wp2_with fail
  go_loopg [7, 8] n (fun gk vo vi wr => ∃ (k : Nat) (A2 : Option Addr) (c2 : Nat), k ≤ n ∧ gk + k = n ∧ vi = .int .i64 k ∧ vo = .slice A2 k c2 ∧
      Own wr w.heap.size 3 1 A2 k c2 ((List.replicate k (-1 : Int)).map (Value.int .i64)) ∧ Below w.heap.size w wr)
  case atStart => exact ⟨0, _, 0, by omega, by omega, rfl, rfl, Own.empty _ _ _ _ (Nat.le_refl _), (Below.refl _ _).alloc (Nat.le_refl _) _⟩
  case round =>
    obtain ⟨k, A2, c2, hk, hgk, rfl, rfl, ho, hb⟩ := hrel
    have Hgk := Lib.hid hgk
    have hbs := hb.size
    clear hgk
    have hqk : IntKind.i64.wrap ((k : Int) + 1) = (k : Int) + 1 := IntWalk.i64_in _ (by omega)
    by_cases hlt : k < n
    · have hk1 : (k : Int) < (n : Int) := by omega
      go_wp2_with (at_builtin; refine wpList_app rfl _ _ 85 rfl 3 i0 _ 1 8 Try.underlying85 hi hz0 hz1 hz2 rfl (by omega) (by omega) w.heap.size _ _ _ _ rfl (ho.alloc _) ⟨wr.heap.size, 0, none⟩ 1 1 [.int .i64 (-1)] rfl rfl (cell_one_new _ _ _) (by simp [Value.oneCell']) (by omega) (by simp; omega) ?_)
      intro A3 c3 w3 ho3 hgA hbA hat
      have ho4 : Own w3 w.heap.size 3 1 A3 (k + 1) c3 ((List.replicate (k + 1) (-1 : Int)).map (Value.int .i64)) := by rw [List.replicate_succ', List.map_append, List.map_replicate]; exact ho3
      have hb4 : Below w.heap.size w w3 := (hb.alloc hbs _).trans hbA
      clear ho3 hgA hbA hat ho
      go_wp2_with fail
      have hgk := Hgk.out
      go_roundg (gk - 1)
      case rel => exact ⟨k + 1, A3, c3, by omega, by omega, by go_num, by first | rfl | simp, ho4, hb4⟩
      case measure => omega
    · have hke : n = k := by omega
      have Ho : Hid (Own wr w.heap.size 3 1 A2 n c2 ((kuhn (cB l tl) n (seen0 n wo) 0).1.map (Value.int .i64))) := Lib.hid (by rw [kuhn, hke]; exact ho)
      rw [← hke]
      have hb0 := hb
      clear hke ho hk hlt hqk Hgk hb hbs
      have Hk := Lib.hid (fun t => kuhn_ok (cB l tl) n (seen0 n wo) (seen0_len n wo) t)
      have Hun := Lib.hid (show (seen0 n wo).count false < n + 1 by have := List.count_le_length (a := false) (l := seen0 n wo); rw [seen0_len] at this; omega)
      go_wp2_with fail
      go_loopg [9, 10] nt (fun gk vm vt wr => ∃ k : Nat, k ≤ nt ∧ gk + k = nt ∧ vt = .int .i64 k ∧ vm = .int .i64 ((kuhn (cB l tl) n (seen0 n wo) k).2 : Nat) ∧ (kuhn (cB l tl) n (seen0 n wo) k).2 ≤ k ∧
        Own wr w.heap.size 3 1 A2 n c2 ((kuhn (cB l tl) n (seen0 n wo) k).1.map (Value.int .i64)) ∧ Below w.heap.size w wr)
      case atStart => exact ⟨0, by omega, by omega, rfl, rfl, by simp [kuhn], Ho.out, hb0⟩
      case round =>
        clear Ho hb0
        obtain ⟨k, hk, hgk, rfl, rfl, hmk, ho, hb⟩ := hrel
        have Hgk := Lib.hid hgk
        have hbs := hb.size
        clear hgk
        have hqk : IntKind.i64.wrap ((k : Int) + 1) = (k : Int) + 1 := IntWalk.i64_in _ (by omega)
        by_cases hlt : k < nt
        · have hk1 : (k : Int) < (nt : Int) := by omega
          have Hs1 : Hid ((kuhn (cB l tl) n (seen0 n wo) (k + 1)).1 = (gv (cB l tl) n (n + 1) (kuhn (cB l tl) n (seen0 n wo) k).1 (seen0 n wo) k).2.1) := Lib.hid rfl
          have Hs2 : Hid ((kuhn (cB l tl) n (seen0 n wo) (k + 1)).2 = (kuhn (cB l tl) n (seen0 n wo) k).2 + if (gv (cB l tl) n (n + 1) (kuhn (cB l tl) n (seen0 n wo) k).1 (seen0 n wo) k).1 then 1 else 0) := Lib.hid rfl
          have Hkk := Lib.hid (Hk.out k)
          generalize kuhn (cB l tl) n (seen0 n wo) k = K at *
          obtain ⟨o, many⟩ := K
          simp only at Hs1 Hs2 Hkk ho hmk ⊢
          go_wp2_with (at_make; refine wpList_make_full _ rfl _ _ 86 rfl w.heap.size 4 i1 _ 1 Try.underlying86 hi' hz0' hz1' _ _ _ _ n rfl rfl rfl rfl (by rw [hz2']; omega) (by simp only [maxLen]; omega) (by omega) ?_)
          intro w1 hown hgrow
          have hb1 : Below w.heap.size w w1 := hb.grown hgrow hbs (by simp)
          have ho1 : Own w1 w.heap.size 3 1 A2 n c2 (o.map (Value.int .i64)) := own_grown ho (A1 := none) hgrow (by intro a a' h; cases h)
          have hs1 : Own w1 w.heap.size 4 1 (some ⟨wr.heap.size, 0, none⟩) n n ((List.replicate n false).map Value.bool) := by
            rw [List.map_replicate]; simpa [Own, toList_madeCells_one, Value.cells] using hown
          have hap : Apart A2 (some ⟨wr.heap.size, 0, none⟩) := by
            intro a a' e1 e2
            injection e2 with e2
            subst e2
            have := (ho.block_lt a e1).2.2.2
            simp only
            omega
          clear hown hgrow hb ho
          rcases hwo with hw0 | hw1
          · have hse : seen0 n wo = List.replicate n false := by unfold seen0; rw [if_neg (by omega)]
            have hw2 : ¬ 0 ≤ wo := by omega
            rw [hse] at Hun
            have Hg := Lib.hid (give_any (n + 1) A A'' A2 (some ⟨wr.heap.size, 0, none⟩) n c w.heap.size nt ct c2 n l tl o (List.replicate n false) k w1 (h1.below hb1 (Nat.le_refl _)) hb1.size hn (h1''.below hb1 (Nat.le_refl _)) hnt hlt ho1 hs1 hap Hkk.out.valid Hun.out)
            rw [← hse] at Hg
            clear hse ho1 hs1
            generalize gv (cB l tl) n (n + 1) o (seen0 n wo) k = r at *
            obtain ⟨rb, ro, rs⟩ := r
            simp only at Hs1 Hs2 Hg
            go_wp2_with fail
            refine Hg.out.mono ?_
            rintro e w4 ⟨rfl, ho4, hs4, hb4⟩
            have hb5 := hb1.trans hb4
            rw [← Hs1.out] at ho4
            cases rb with
            | true =>
              have Hm : Hid ((kuhn (cB l tl) n (seen0 n wo) (k + 1)).2 = many + 1) := Lib.hid (by rw [Hs2.out]; rfl)
              have hqm : IntKind.i64.wrap ((many : Int) + 1) = (many : Int) + 1 := IntWalk.i64_in _ (by omega)
              clear hs4 hb4 Hs2
              go_wp2_with fail
              have hgk := Hgk.out
              go_roundg (gk - 1)
              case rel => exact ⟨k + 1, by omega, by omega, by go_num, by rw [Hm.out]; go_num, by rw [Hm.out]; omega, ho4, hb5⟩
              case measure => omega
            | false =>
              have Hm : Hid ((kuhn (cB l tl) n (seen0 n wo) (k + 1)).2 = many) := Lib.hid (by rw [Hs2.out]; rfl)
              clear hs4 hb4 Hs2
              go_wp2_with fail
              have hgk := Hgk.out
              go_roundg (gk - 1)
              case rel => exact ⟨k + 1, by omega, by omega, by go_num, by rw [Hm.out], by rw [Hm.out]; omega, ho4, hb5⟩
              case measure => omega
          · obtain ⟨hw0, hw1⟩ := hw1
            obtain ⟨W, rfl⟩ := Int.eq_ofNat_of_zero_le hw0
            have hWn : W < n := by omega
            have hse : seen0 n (W : Int) = (List.replicate n false).set W true := by unfold seen0; rw [if_pos (by omega)]; rfl
            have fs := hs1.frozenAt (j := W)
            have cs0 : w1.cell? ⟨wr.heap.size, W, none⟩ = some (.bool false) := by
              rw [hs1.cellAt (by omega), bools_get (by simpa using hWn)]
              congr 2
              simp [List.getD, List.getElem?_replicate, hWn]
            have h3 := hs1.stored (j := W) (.bool true)
            rw [← List.map_set] at h3
            have hs3 := h3.1
            have ho3 := ho1.grown (a := ⟨wr.heap.size, W, none⟩) h3.2 (fun x hx he => hap _ _ hx rfl he)
            have hb3 := hb1.setCell (p := ⟨wr.heap.size, W, none⟩) hbs (.bool true)
            rw [hse] at Hun
            have Hg := Lib.hid (give_any (n + 1) A A'' A2 (some ⟨wr.heap.size, 0, none⟩) n c w.heap.size nt ct c2 n l tl o ((List.replicate n false).set W true) k _ (h1.below hb3 (Nat.le_refl _)) hb3.size hn (h1''.below hb3 (Nat.le_refl _)) hnt hlt ho3 hs3 hap Hkk.out.valid Hun.out)
            rw [← hse] at Hg
            clear hse ho1 hs1 h3 hs3 ho3
            generalize gv (cB l tl) n (n + 1) o (seen0 n (W : Int)) k = r at *
            obtain ⟨rb, ro, rs⟩ := r
            simp only at Hs1 Hs2 Hg
            go_wp2_with fail
            refine Hg.out.mono ?_
            rintro e w4 ⟨rfl, ho4, hs4, hb4⟩
            have hb5 := hb3.trans hb4
            rw [← Hs1.out] at ho4
            cases rb with
            | true =>
              have Hm : Hid ((kuhn (cB l tl) n (seen0 n (W : Int)) (k + 1)).2 = many + 1) := Lib.hid (by rw [Hs2.out]; rfl)
              have hqm : IntKind.i64.wrap ((many : Int) + 1) = (many : Int) + 1 := IntWalk.i64_in _ (by omega)
              clear hs4 hb4 Hs2
              go_wp2_with fail
              have hgk := Hgk.out
              go_roundg (gk - 1)
              case rel => exact ⟨k + 1, by omega, by omega, by go_num, by rw [Hm.out]; go_num, by rw [Hm.out]; omega, ho4, hb5⟩
              case measure => omega
            | false =>
              have Hm : Hid ((kuhn (cB l tl) n (seen0 n (W : Int)) (k + 1)).2 = many) := Lib.hid (by rw [Hs2.out]; rfl)
              clear hs4 hb4 Hs2
              go_wp2_with fail
              have hgk := Hgk.out
              go_roundg (gk - 1)
              case rel => exact ⟨k + 1, by omega, by omega, by go_num, by rw [Hm.out], by rw [Hm.out]; omega, ho4, hb5⟩
              case measure => omega
        · have hke : nt = k := by omega
          subst hke
          have hd : ¬ (nt : Int) < (nt : Int) := by omega
          go_wp2_with fail
          go_ret
          exact ⟨rfl, hb⟩
end Go.Proofs.Ytcacmiafmanniaa
