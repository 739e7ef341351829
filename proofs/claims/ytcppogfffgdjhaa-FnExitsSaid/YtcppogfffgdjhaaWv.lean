/- Evacuation: the times from each place: the reference's side. -/
import Derived.Test.YtcppogfffgdjhaaWb
import Derived.Test.YtcppogfffgdjhaaA
namespace Go.Proofs.Ytcppogfffgdjhaa
open Go.RowKit
set_option maxRecDepth 100000
set_option linter.unusedVariables false

theorem own_some {w : World} {B e size n c : Nat} {A : Option Addr} {xs : List Value} (h : Own w B e size A n c xs) (hn : 0 < n) : ∃ g, A = some ⟨g, 0, none⟩ ∧ B ≤ g ∧ g < w.heap.size := by
  cases A with
  | none => have := h.none_n; omega
  | some a =>
    obtain ⟨h1, h2, h3, h4⟩ := h.block_lt a rfl
    obtain ⟨b, o, s⟩ := a
    simp only at h1 h2 h3 h4
    subst h1; subst h2
    exact ⟨b, rfl, h3, h4⟩
theorem own_nth {w : World} {B e n c g j : Nat} {ts : List Int} (h : Own w B e 1 (some ⟨g, 0, none⟩) n c (ts.map (Value.int .i64))) (hj : j < n) : w.cell? ⟨g, j, none⟩ = some (.int .i64 (nth ts j)) := by
  have hl : ts.length = n := by have := h.len; simpa using this
  rw [h.cellAt (by omega), List.getElem?_map, getElem?_nth (by omega)]; rfl
theorem own_put {w : World} {B e n c g j : Nat} {ts : List Int} (h : Own w B e 1 (some ⟨g, 0, none⟩) n c (ts.map (Value.int .i64))) (x : Int) : Own (w.setCell ⟨g, j, none⟩ (.int .i64 x)) B e 1 (some ⟨g, 0, none⟩) n c ((ts.set j x).map (Value.int .i64)) := by
  have := (h.stored (j := j) (.int .i64 x)).1
  rwa [← List.map_set] at this
def setTo (ts goals : List Int) : Nat → List Int
  | 0 => ts
  | k + 1 => (setTo ts goals k).set (nth goals k).toNat 0
theorem setTo_succ (ts goals : List Int) (k : Nat) : setTo ts goals (k + 1) = (setTo ts goals k).set (nth goals k).toNat 0 := rfl
theorem setTo_len (ts goals : List Int) (k : Nat) : (setTo ts goals k).length = ts.length := by
  induction k with
  | zero => rfl
  | succ k ih => rw [setTo_succ, List.length_set, ih]
/-- Goals are places. -/
def goalsB (p : Nat) (goals : List Int) : Prop := ∀ k, k < goals.length → 0 ≤ nth goals k ∧ nth goals k < p
theorem setTo_nth {ts goals : List Int} {p : Nat} (hl : ts.length = p) (hg : goalsB p goals) (v : Nat) : ∀ k, k ≤ goals.length → nth (setTo ts goals k) v = if (goals.take k).any (fun z => (v : Int) == z) then 0 else nth ts v := by
  intro k
  induction k with
  | zero => intro _; simp [setTo]
  | succ k ih =>
    intro hk
    have hgk := hg k (by omega)
    rw [setTo_succ, nth_set (by rw [setTo_len]; omega), ih (by omega), take_succ_nth (by omega), List.any_append]
    by_cases e : v = (nth goals k).toNat
    · have e2 : ((v : Int) == nth goals k) = true := by simp; omega
      rw [if_pos e]
      simp [e2]
    · have e2 : ((v : Int) == nth goals k) = false := by simp; omega
      rw [if_neg e]
      simp [e2]
theorem setTo_init {goals : List Int} {p : Nat} (hg : goalsB p goals) : setTo (List.replicate p (-1)) goals goals.length = initT p goals := by
  refine nth_ext (by rw [setTo_len, initT_len]; simp) fun v hv => ?_
  rw [setTo_len, List.length_replicate] at hv
  rw [setTo_nth (p := p) (by simp) hg v _ (Nat.le_refl _), initT_nth goals hv, List.take_of_length_le (Nat.le_refl _)]
  have : nth (List.replicate p (-1)) v = -1 := by rw [nth_eq (by simpa using hv)]; simp
  rw [this]

set_option maxHeartbeats 2000000 in
theorem l23Times_any {A A' : Option Addr} {n c B n' c' B' : Nat} {p : Int} {l : List WalkR} {goals : List Int} {lad : Bool} {w : World} (h : Reads w B 4 A n (l.flatMap WalkR.cells)) (hB : B ≤ w.heap.size) (hn : n ≤ 1048576)
    (h' : Ints w B' A' n' goals) (hB' : B' ≤ w.heap.size) (hn' : n' ≤ 1048576) (hw : walksB p l = true) (hg : goalsB p.toNat goals) :
    Calls Try.prog 35 #[.int .i64 p, .slice A n c, .slice A' n' c', .bool lad] w fun e w' => ∃ A2 c2, e = .returned (.slice A2 p.toNat c2) ∧ Own w' w.heap.size 2 1 A2 p.toNat c2 ((timesR p l goals lad).map (Value.int .i64)) ∧ Below w.heap.size w w' := by
  have HL := Lib.hid (WalkR.count h)
  have HL' := Lib.hid h'.len
  obtain ⟨i0, hi, hz0, hz1, hz2⟩ := info_parts info_int
  obtain ⟨hl, hp⟩ := okW_of hw
  obtain ⟨P, rfl⟩ := Int.eq_ofNat_of_zero_le (show 0 ≤ p by omega)
  have hP : (P : Int).toNat = P := by omega
  rw [hP] at hl hg ⊢
  have hp1 : 1 ≤ P := by omega
  have hp2 : P ≤ 16 := by omega
  have HR : Hid (timesR P l goals lad = timesIt l lad (initT P goals) P) := Lib.hid (by rw [timesR, hP])
  clear hw hP hp
  go_enter Try.func35, Try.ntmps35
  go_wp2_with fail
  go_loopg [9, 10] P (fun gk v i wr => ∃ (k : Nat) (A2 : Option Addr) (c2 : Nat), k ≤ P ∧ gk + k = P ∧ i = .int .i64 k ∧ v = .slice A2 k c2 ∧ Own wr w.heap.size 2 1 A2 k c2 ((List.replicate k (-1 : Int)).map (Value.int .i64)) ∧ Below w.heap.size w wr)
  case atStart => exact ⟨0, _, 0, by omega, by omega, rfl, rfl, Own.empty _ _ _ _ (Nat.le_refl _), (Below.refl _ _).alloc (Nat.le_refl _) _⟩
  case round =>
    obtain ⟨k, A2, c2, hk, hgk, rfl, rfl, ho, hb⟩ := hrel
    have Hgk := Lib.hid hgk
    have hbs := hb.size
    clear hgk
    by_cases hlt : k < P
    · have hd : (k : Int) < (P : Int) := by omega
      go_wp2_with (at_builtin; refine wpList_app rfl (.tmp 22) (.tmp 23) 27 rfl 2 i0 _ 1 8 Try.underlying27 hi hz0 hz1 hz2 rfl (by omega) (by omega) w.heap.size _ _ _ _ rfl (ho.alloc _) ⟨wr.heap.size, 0, none⟩ 1 1 [.int .i64 (-1)] rfl rfl (cell_one_new _ _ _) (by simp [Value.oneCell']) (by omega) (by simp; omega) ?_)
      intro A3 c3 w3 ho3 hgA hbA hat
      have ho4 : Own w3 w.heap.size 2 1 A3 (k + 1) c3 ((List.replicate (k + 1) (-1 : Int)).map (Value.int .i64)) := by rw [List.map_replicate, List.replicate_succ']; exact ho3
      have hb4 : Below w.heap.size w w3 := (hb.alloc hbs _).trans hbA
      have hq1 : IntKind.i64.wrap ((k : Int) + 1) = (k : Int) + 1 := IntWalk.i64_in _ (by omega)
      clear ho3 hgA hbA hat ho
      go_wp2_with fail
      have hgk := Hgk.out
      go_roundg (gk - 1)
      case rel => exact ⟨k + 1, A3, c3, by omega, by omega, by go_num, rfl, ho4, hb4⟩
      case measure => omega
    · have hke : k = P := by omega
      subst hke
      have hd : ¬ (k : Int) < (k : Int) := by omega
      obtain ⟨g, rfl, hg1, hg2⟩ := own_some ho (by omega)
      clear Hgk
      go_wp2_with fail
      go_loopg [11] n' (fun gk i wr => ∃ j : Nat, j ≤ n' ∧ gk + j = n' ∧ i = .int .i64 j ∧ Own wr w.heap.size 2 1 (some ⟨g, 0, none⟩) k c2 ((setTo (List.replicate k (-1)) goals j).map (Value.int .i64)) ∧ Below w.heap.size w wr)
      case atStart => exact ⟨0, by omega, by omega, rfl, ho, hb⟩
      case round =>
        clear ho hb hg2 hbs
        obtain ⟨j, hj, hgk, rfl, ho, hb⟩ := hrel
        have Hgk := Lib.hid hgk
        have hbs := hb.size
        clear hgk
        obtain ⟨g', e', _, hg2⟩ := own_some ho (by omega)
        injection e' with e'
        injection e' with e'
        subst e'
        by_cases hlt2 : j < n'
        · obtain ⟨ad, rfl, hbl, hc1⟩ := Ints.at_ (Reads.below h' hb hB') hlt2
          have hgj := hg j (by rw [HL'.out]; exact hlt2)
          obtain ⟨q1, q2⟩ := hgj
          have hfz := ho.frozenAt (j := (nth goals j).toNat)
          have hcell := own_nth ho (j := (nth goals j).toNat) (by omega)
          have Hst := Lib.hid (own_put ho (j := (nth goals j).toNat) 0)
          go_wp2_with fail
          have hgk := Hgk.out
          go_roundg (gk - 1)
          case rel => exact ⟨j + 1, by omega, by omega, by go_num, by rw [setTo_succ]; exact Hst.out, hb.setCell hg1 _⟩
          case measure => omega
        · have hje : j = n' := by omega
          have hini : setTo (List.replicate k (-1)) goals j = initT k goals := by rw [hje, ← HL'.out]; exact setTo_init hg
          rw [hini] at ho
          subst hje
          clear Hgk hini
          have hd2 : ¬ ((j : Int) < (j : Int)) := by omega
          go_wp2_with fail
          go_loopg [12] k (fun gk i wr => ∃ r : Nat, r ≤ k ∧ gk + r = k ∧ i = .int .i64 r ∧ Own wr w.heap.size 2 1 (some ⟨g, 0, none⟩) k c2 ((timesIt l lad (initT k goals) r).map (Value.int .i64)) ∧ Below w.heap.size w wr)
          case atStart => exact ⟨0, by omega, by omega, rfl, ho, hb⟩
          case round =>
            clear ho hb hg2 hbs
            obtain ⟨r, hr, hgk, rfl, ho, hb⟩ := hrel
            have Hgk := Lib.hid hgk
            have hbs := hb.size
            clear hgk
            by_cases hlt3 : r < k
            · have hd3 : (r : Int) < (k : Int) := by omega
              have Hg0 := it_good (lad := lad) (initT_good (p := k) goals).1 hp2 hl r
              have Hts : Hid (∀ ts, passTo l lad (timesIt l lad (initT k goals) r) l.length = ts → timesIt l lad (initT k goals) (r + 1) = ts) := Lib.hid fun ts e => by rw [timesIt_succ]; exact e
              generalize timesIt l lad (initT k goals) r = ts0 at *
              obtain ⟨gko, hgko⟩ : ∃ gko, gko = gk := ⟨_, rfl⟩
              go_wp2_with fail
              go_loopg [13] n (fun gk i wr => ∃ m : Nat, m ≤ n ∧ gk + m = n ∧ i = .int .i64 m ∧ Own wr w.heap.size 2 1 (some ⟨g, 0, none⟩) k c2 ((passTo l lad ts0 m).map (Value.int .i64)) ∧ Below w.heap.size w wr)
              case atStart => exact ⟨0, by omega, by omega, rfl, ho, hb⟩
              case round =>
                clear ho hb hbs
                obtain ⟨m, hm, hgk, rfl, ho, hb⟩ := hrel
                have Hgk2 := Lib.hid hgk
                have hbs := hb.size
                clear hgk
                obtain ⟨g', e', _, hg2⟩ := own_some ho (by omega)
                injection e' with e'
                injection e' with e'
                subst e'
                by_cases hlt4 : m < n
                · obtain ⟨ad, rfl, hbl, hd0', hd1', hd2', hd3'⟩ := WalkR.rd (Reads.below h hb hB) hlt4
                  obtain ⟨⟨qf0, qf1⟩, ⟨qt0, qt1⟩, hne, qs0, qs1⟩ := hl m (by rw [HL.out]; exact hlt4)
                  have Hg1 := (passTo_good (lad := lad) Hg0 hp2 hl m (by rw [HL.out]; omega)).1
                  have Hpass : Hid (passTo l lad ts0 (m + 1) = relax lad (passTo l lad ts0 m) (WalkR.at_ l m)) := Lib.hid (passTo_succ _ _ _ _)
                  generalize passTo l lad ts0 m = cur at *
                  have htT := Hg1.top hp2 (WalkR.at_ l m).To.toNat (by omega)
                  have htF := Hg1.top hp2 (WalkR.at_ l m).From.toNat (by omega)
                  have hcT := own_nth ho (j := (WalkR.at_ l m).To.toNat) (by omega)
                  have hcF := own_nth ho (j := (WalkR.at_ l m).From.toNat) (by omega)
                  have hfz := ho.frozenAt (j := (WalkR.at_ l m).From.toNat)
                  have hq : IntKind.i64.wrap (nth cur (WalkR.at_ l m).To.toNat + (WalkR.at_ l m).Seconds) = nth cur (WalkR.at_ l m).To.toNat + (WalkR.at_ l m).Seconds := IntWalk.i64_in _ (by omega)
                  have Ho := Lib.hid ho
                  clear ho Hg1
                  cases b1 : (WalkR.at_ l m).Ladder with
                  | false =>
                    by_cases c0 : nth cur (WalkR.at_ l m).To.toNat < 0
                    · have d0 : decide (nth cur (WalkR.at_ l m).To.toNat < 0) = true := by simp; omega
                      have Hs : Hid (relax lad cur (WalkR.at_ l m) = cur) := Lib.hid (by unfold relax; simp only [b1, d0]; simp)
                      go_wp2_with fail
                      have hgk2 := Hgk2.out
                      go_roundg (gk - 1)
                      case rel => exact ⟨m + 1, by omega, by omega, by go_num, by rw [Hpass.out, Hs.out]; exact Ho.out.alloc _, hb.alloc hbs _⟩
                      case measure => omega
                    · have d0 : decide (nth cur (WalkR.at_ l m).To.toNat < 0) = false := by simp; omega
                      by_cases c1 : nth cur (WalkR.at_ l m).From.toNat < 0
                      · have d1 : decide (nth cur (WalkR.at_ l m).From.toNat < 0) = true := by simp; omega
                        have Hs : Hid (relax lad cur (WalkR.at_ l m) = cur.set (WalkR.at_ l m).From.toNat (nth cur (WalkR.at_ l m).To.toNat + (WalkR.at_ l m).Seconds)) := Lib.hid (by unfold relax; simp only [b1, d0, d1]; simp)
                        go_wp2_with fail
                        go_quiet (fail)
                        go_wp2_with fail
                        have hgk2 := Hgk2.out
                        go_roundg (gk - 1)
                        case rel => exact ⟨m + 1, by omega, by omega, by go_num, by rw [Hpass.out, Hs.out]; exact own_put (by exact Ho.out.alloc _) _, (below_drewN (hb.alloc hbs _) _).setCell hg1 _⟩
                        case measure => omega
                      · have d1 : decide (nth cur (WalkR.at_ l m).From.toNat < 0) = false := by simp; omega
                        by_cases c2 : nth cur (WalkR.at_ l m).To.toNat + (WalkR.at_ l m).Seconds < nth cur (WalkR.at_ l m).From.toNat
                        · have d2 : decide (nth cur (WalkR.at_ l m).To.toNat + (WalkR.at_ l m).Seconds < nth cur (WalkR.at_ l m).From.toNat) = true := by simp; omega
                          have Hs : Hid (relax lad cur (WalkR.at_ l m) = cur.set (WalkR.at_ l m).From.toNat (nth cur (WalkR.at_ l m).To.toNat + (WalkR.at_ l m).Seconds)) := Lib.hid (by unfold relax; simp only [b1, d0, d1, d2]; simp)
                          go_wp2_with fail
                          go_quiet (fail)
                          go_wp2_with fail
                          have hgk2 := Hgk2.out
                          go_roundg (gk - 1)
                          case rel => exact ⟨m + 1, by omega, by omega, by go_num, by rw [Hpass.out, Hs.out]; exact own_put (by exact Ho.out.alloc _) _, (below_drewN (hb.alloc hbs _) _).setCell hg1 _⟩
                          case measure => omega
                        · have d2 : decide (nth cur (WalkR.at_ l m).To.toNat + (WalkR.at_ l m).Seconds < nth cur (WalkR.at_ l m).From.toNat) = false := by simp; omega
                          have Hs : Hid (relax lad cur (WalkR.at_ l m) = cur) := Lib.hid (by unfold relax; simp only [b1, d0, d1, d2]; simp)
                          go_wp2_with fail
                          go_quiet (fail)
                          go_wp2_with fail
                          have hgk2 := Hgk2.out
                          go_roundg (gk - 1)
                          case rel => exact ⟨m + 1, by omega, by omega, by go_num, by rw [Hpass.out, Hs.out]; exact Ho.out.alloc _, below_drewN (hb.alloc hbs _) _⟩
                          case measure => omega
                  | true =>
                  cases lad with
                  | false =>
                    have Hs : Hid (relax false cur (WalkR.at_ l m) = cur) := Lib.hid (by unfold relax; simp only [b1]; simp)
                    go_wp2_with fail
                    have hgk2 := Hgk2.out
                    go_roundg (gk - 1)
                    case rel => exact ⟨m + 1, by omega, by omega, by go_num, by rw [Hpass.out, Hs.out]; exact Ho.out.alloc _, hb.alloc hbs _⟩
                    case measure => omega
                  | true =>
                    by_cases c0 : nth cur (WalkR.at_ l m).To.toNat < 0
                    · have d0 : decide (nth cur (WalkR.at_ l m).To.toNat < 0) = true := by simp; omega
                      have Hs : Hid (relax true cur (WalkR.at_ l m) = cur) := Lib.hid (by unfold relax; simp only [b1, d0]; simp)
                      go_wp2_with fail
                      have hgk2 := Hgk2.out
                      go_roundg (gk - 1)
                      case rel => exact ⟨m + 1, by omega, by omega, by go_num, by rw [Hpass.out, Hs.out]; exact Ho.out.alloc _, hb.alloc hbs _⟩
                      case measure => omega
                    · have d0 : decide (nth cur (WalkR.at_ l m).To.toNat < 0) = false := by simp; omega
                      by_cases c1 : nth cur (WalkR.at_ l m).From.toNat < 0
                      · have d1 : decide (nth cur (WalkR.at_ l m).From.toNat < 0) = true := by simp; omega
                        have Hs : Hid (relax true cur (WalkR.at_ l m) = cur.set (WalkR.at_ l m).From.toNat (nth cur (WalkR.at_ l m).To.toNat + (WalkR.at_ l m).Seconds)) := Lib.hid (by unfold relax; simp only [b1, d0, d1]; simp)
                        go_wp2_with fail
                        go_quiet (fail)
                        go_wp2_with fail
                        have hgk2 := Hgk2.out
                        go_roundg (gk - 1)
                        case rel => exact ⟨m + 1, by omega, by omega, by go_num, by rw [Hpass.out, Hs.out]; exact own_put (by exact Ho.out.alloc _) _, (below_drewN (hb.alloc hbs _) _).setCell hg1 _⟩
                        case measure => omega
                      · have d1 : decide (nth cur (WalkR.at_ l m).From.toNat < 0) = false := by simp; omega
                        by_cases c2 : nth cur (WalkR.at_ l m).To.toNat + (WalkR.at_ l m).Seconds < nth cur (WalkR.at_ l m).From.toNat
                        · have d2 : decide (nth cur (WalkR.at_ l m).To.toNat + (WalkR.at_ l m).Seconds < nth cur (WalkR.at_ l m).From.toNat) = true := by simp; omega
                          have Hs : Hid (relax true cur (WalkR.at_ l m) = cur.set (WalkR.at_ l m).From.toNat (nth cur (WalkR.at_ l m).To.toNat + (WalkR.at_ l m).Seconds)) := Lib.hid (by unfold relax; simp only [b1, d0, d1, d2]; simp)
                          go_wp2_with fail
                          go_quiet (fail)
                          go_wp2_with fail
                          have hgk2 := Hgk2.out
                          go_roundg (gk - 1)
                          case rel => exact ⟨m + 1, by omega, by omega, by go_num, by rw [Hpass.out, Hs.out]; exact own_put (by exact Ho.out.alloc _) _, (below_drewN (hb.alloc hbs _) _).setCell hg1 _⟩
                          case measure => omega
                        · have d2 : decide (nth cur (WalkR.at_ l m).To.toNat + (WalkR.at_ l m).Seconds < nth cur (WalkR.at_ l m).From.toNat) = false := by simp; omega
                          have Hs : Hid (relax true cur (WalkR.at_ l m) = cur) := Lib.hid (by unfold relax; simp only [b1, d0, d1, d2]; simp)
                          go_wp2_with fail
                          go_quiet (fail)
                          go_wp2_with fail
                          have hgk2 := Hgk2.out
                          go_roundg (gk - 1)
                          case rel => exact ⟨m + 1, by omega, by omega, by go_num, by rw [Hpass.out, Hs.out]; exact Ho.out.alloc _, below_drewN (hb.alloc hbs _) _⟩
                          case measure => omega
                · have hme : m = n := by omega
                  have hts := Hts.out _ (show passTo l lad ts0 l.length = passTo l lad ts0 m by rw [HL.out, hme])
                  rw [← hts] at ho
                  have hq1 : IntKind.i64.wrap ((r : Int) + 1) = (r : Int) + 1 := IntWalk.i64_in _ (by omega)
                  go_wp2_with fail
                  have hgk := Hgk.out
                  go_roundg (gko - 1)
                  case rel => exact ⟨r + 1, by omega, by omega, by go_num, ho, hb⟩
                  case measure => omega
            · have hre : r = k := by omega
              have hd3 : ¬ (r : Int) < (k : Int) := by omega
              rw [hre, ← HR.out] at ho
              go_wp2_with fail
              go_ret
              exact ⟨_, c2, rfl, ho, hb⟩
end Go.Proofs.Ytcppogfffgdjhaa
