/- Evacuation: the times from each place: the program's side. -/
import Derived.Test.YtcppogfffgdjhaaWv
namespace Go.Proofs.Ytcppogfffgdjhaa
open Go.RowKit
set_option maxRecDepth 100000
set_option linter.unusedVariables false

set_option maxHeartbeats 2000000 in
theorem timesTo_any {A A' : Option Addr} {n c B n' c' B' : Nat} {p : Int} {l : List WalkR} {goals : List Int} {lad : Bool} {w : World} (h : Reads w B 4 A n (l.flatMap WalkR.cells)) (hB : B ≤ w.heap.size) (hn : n ≤ 1048576)
    (h' : Ints w B' A' n' goals) (hB' : B' ≤ w.heap.size) (hn' : n' ≤ 1048576) (hw : walksB p l = true) :
    Calls Try.prog 30 #[.int .i64 p, .slice A n c, .slice A' n' c', .bool lad] w fun e w' => ∃ A2 c2, e = .returned (.slice A2 p.toNat c2) ∧ Own w' w.heap.size 2 1 A2 p.toNat c2 ((timesR p l goals lad).map (Value.int .i64)) ∧ Below w.heap.size w w' := by
  have HL := Lib.hid (WalkR.count h)
  have HL' := Lib.hid h'.len
  obtain ⟨i0, hi, hz0, hz1, hz2⟩ := info_parts info_int
  obtain ⟨hl, hp⟩ := okW_of hw
  obtain ⟨P, rfl⟩ := Int.eq_ofNat_of_zero_le (show 0 ≤ p by omega)
  have hP : (P : Int).toNat = P := by omega
  rw [hP] at hl ⊢
  have hp1 : 1 ≤ P := by omega
  have hp2 : P ≤ 16 := by omega
  have HR : Hid (timesR P l goals lad = timesIt l lad (initT P goals) P) := Lib.hid (by rw [timesR, hP])
  clear hw hP hp
  go_enter Try.func30, Try.ntmps30
  go_wp2_with (at_make; refine wpList_make_full _ rfl _ _ 27 rfl w.heap.size 2 i0 _ 1 Try.underlying27 hi hz0 hz1 _ _ _ _ P rfl rfl rfl rfl (by rw [hz2]; omega) (by simp only [maxLen]; omega) (Nat.le_refl _) ?_)
  intro w1 hown hgrow
  have hb1 : Below w.heap.size w w1 := (Below.refl _ _).grown hgrow (Nat.le_refl _) (by simp)
  have hfirst : Own w1 w.heap.size 2 1 (some ⟨w.heap.size, 0, none⟩) P P ((((initT P goals).take 0) ++ List.replicate (P - 0) 0).map (Value.int .i64)) := by simpa [Own, toList_madeCells_one, Value.cells] using hown
  have hg2 : w.heap.size < w1.heap.size := (Own.block_lt hown _ rfl).2.2.2
  have hg1 := Nat.le_refl w.heap.size
  generalize hgd : w.heap.size = g at hg1 hfirst hg2 hb1 hB hB' ⊢
  have Hgd := Lib.hid hgd
  clear hown hgrow hgd
  have Hin : Hid (∀ v, v < P → nth (initT P goals) v = if goals.any (fun z => (v : Int) == z) then 0 else -1) := Lib.hid fun v hv => initT_nth goals hv
  have Hin0 := Lib.hid (initT_len P goals)
  have Hgood := Lib.hid (initT_good (p := P) goals)
  have Hsame : Hid (∀ r, passTo l lad (timesIt l lad (initT P goals) r) l.length = timesIt l lad (initT P goals) r → timesIt l lad (initT P goals) r = timesR P l goals lad) :=
    Lib.hid fun r hr => by rw [HR.out]; exact it_same Hgood.out.1 hp2 hl Hgood.out.2 hp1 hr
  have Hit := Lib.hid (it_good (lad := lad) Hgood.out.1 hp2 hl)
  generalize initT P goals = T0 at *
  go_wp2_with fail
  go_loopg [19] P (fun gk i wr => ∃ k : Nat, k ≤ P ∧ gk + k = P ∧ i = .int .i64 k ∧ Own wr g 2 1 (some ⟨g, 0, none⟩) P P ((T0.take k ++ List.replicate (P - k) 0).map (Value.int .i64)) ∧ Below g w wr)
  case atStart => exact ⟨0, by omega, by omega, rfl, hfirst, hb1⟩
  case round =>
    clear hfirst hb1 hg2
    obtain ⟨k, hk, hgk, rfl, ho, hb⟩ := hrel
    have Hgk := Lib.hid hgk
    have hbs := hb.size
    clear hgk
    by_cases hlt : k < P
    · have hfz := ho.frozenAt (j := k)
      have hcell := own_nth ho hlt
      have hk0 : (0 : Int) ≤ (k : Int) := by omega
      have hk1 : (k : Int) < (P : Int) := by omega
      have hset : ∀ _ : Nat, (T0.take k ++ List.replicate (P - k) 0).set k (nth T0 k) = T0.take (k + 1) ++ List.replicate (P - (k + 1)) 0 := fun _ => by
        have hl0 := Hin0.out
        have e : (T0.take k).length = k := by simp; omega
        rw [List.set_append_right _ _ (by omega), e, Nat.sub_self, show P - k = (P - (k + 1)) + 1 by omega, List.replicate_succ, List.set_cons_zero, take_succ_nth (by omega), List.append_assoc]
        rfl
      have Hst1 := Lib.hid (own_put ho (j := k) (-1))
      have hin := Hin.out k hlt
      cases hany : goals.any (fun z => (k : Int) == z) with
      | false =>
        rw [hany, if_neg (by simp)] at hin
        have Hst : Hid (Own (wr.setCell ⟨g, k, none⟩ (.int .i64 (-1))) g 2 1 (some ⟨g, 0, none⟩) P P ((T0.take (k + 1) ++ List.replicate (P - (k + 1)) 0).map (Value.int .i64))) := by
          refine Lib.hid ?_
          rw [← hset 0, hin]; exact Hst1.out
        clear hset hin
        go_wp2_with fail
        refine (contains_any A' n' c' B' goals k _ (Reads.below h' (hb.setCell hg1 _) (by omega)) (by omega)).mono ?_
        rintro e w' ⟨rfl, rfl⟩
        go_wp2_with fail
        have hgk := Hgk.out
        go_roundg (gk - 1)
        case rel => exact ⟨k + 1, by omega, by omega, by go_num, Hst.out, hb.setCell hg1 _⟩
        case measure => omega
      | true =>
        rw [hany, if_pos rfl] at hin
        have Hst : Hid (Own ((wr.setCell ⟨g, k, none⟩ (.int .i64 (-1))).setCell ⟨g, k, none⟩ (.int .i64 0)) g 2 1 (some ⟨g, 0, none⟩) P P ((T0.take (k + 1) ++ List.replicate (P - (k + 1)) 0).map (Value.int .i64))) := by
          refine Lib.hid ?_
          have := own_put Hst1.out (j := k) 0
          rw [List.set_set] at this
          rw [← hset 0, hin]; exact this
        have hfz2 := Hst1.out.frozenAt (j := k)
        have hcell2 := own_nth Hst1.out hlt
        clear hset hin
        go_wp2_with fail
        refine (contains_any A' n' c' B' goals k _ (Reads.below h' (hb.setCell hg1 _) (by omega)) (by omega)).mono ?_
        rintro e w' ⟨rfl, rfl⟩
        go_wp2_with fail
        have hgk := Hgk.out
        go_roundg (gk - 1)
        case rel => exact ⟨k + 1, by omega, by omega, by go_num, Hst.out, (hb.setCell hg1 _).setCell hg1 _⟩
        case measure => omega
    · have hke : P = k := by omega
      subst hke
      have hT : T0.take P ++ List.replicate (P - P) 0 = T0 := by rw [Nat.sub_self, List.take_of_length_le (Nat.le_of_eq Hin0.out)]; simp
      rw [hT] at ho
      clear hT Hgk Hin
      go_wp2_with fail
      go_loopg [11] (costT T0 + 1) (fun gk ch wr => ∃ (r : Nat) (ts : List Int), ts = timesIt l lad T0 r ∧ Own wr g 2 1 (some ⟨g, 0, none⟩) P P (ts.map (Value.int .i64)) ∧ Below g w wr ∧
        ((ch = .bool true ∧ gk = costT ts + 1) ∨ (ch = .bool false ∧ gk = 0 ∧ passTo l lad ts l.length = ts)))
      case atStart => exact ⟨0, T0, rfl, ho, hb, .inl ⟨rfl, rfl⟩⟩
      case round =>
        clear ho hb hbs
        obtain ⟨r, ts0, hts, ho, hb, hch⟩ := hrel
        have hbs := hb.size
        obtain ⟨g', e', _, hg2⟩ := own_some ho (by omega)
        injection e' with e'
        injection e' with e'
        subst e'
        rcases hch with ⟨rfl, hgk⟩ | ⟨rfl, hgk, hfix⟩
        · have Hgk := Lib.hid hgk
          clear hgk
          have Hg0 := Hit.out r
          rw [← hts] at Hg0
          have Hts : Hid (∀ us, passTo l lad ts0 l.length = us → us = timesIt l lad T0 (r + 1)) := Lib.hid fun us e => by rw [timesIt_succ, ← hts]; exact e.symm
          obtain ⟨gko, hgko⟩ : ∃ gko, gko = gk := ⟨_, rfl⟩
          go_wp2_with fail
          go_loopg [11, 35] n (fun gk ch i wr => ∃ (m : Nat) (f : Bool), m ≤ n ∧ gk + m = n ∧ i = .int .i64 m ∧ ch = .bool f ∧ Own wr g 2 1 (some ⟨g, 0, none⟩) P P ((passTo l lad ts0 m).map (Value.int .i64)) ∧ Below g w wr ∧
            ((f = false ∧ passTo l lad ts0 m = ts0) ∨ (f = true ∧ costT (passTo l lad ts0 m) < costT ts0)))
          case atStart => exact ⟨0, false, by omega, by omega, rfl, rfl, ho, hb, .inl ⟨rfl, rfl⟩⟩
          case round =>
            clear ho hb hbs hg2
            obtain ⟨m, f, hm, hgk, rfl, rfl, ho, hb, hf⟩ := hrel
            have Hgk2 := Lib.hid hgk
            have Hf := Lib.hid hf
            have hbs := hb.size
            clear hgk hf
            obtain ⟨g', e', _, hg2⟩ := own_some ho (by omega)
            injection e' with e'
            injection e' with e'
            subst e'
            by_cases hlt4 : m < n
            · obtain ⟨ad, rfl, hbl, hd0', hd1', hd2', hd3'⟩ := WalkR.rd (Reads.below h hb hB) hlt4
              have hlm := hl m (by rw [HL.out]; exact hlt4)
              obtain ⟨⟨qf0, qf1⟩, ⟨qt0, qt1⟩, hne, qs0, qs1⟩ := hlm
              have Hg1 := (passTo_good (lad := lad) Hg0 hp2 hl m (by rw [HL.out]; omega)).1
              have Hrg := Lib.hid (relax_good (lad := lad) Hg1 hp2 (hl m (by rw [HL.out]; exact hlt4))).2.1
              have Hpass : Hid (passTo l lad ts0 (m + 1) = relax lad (passTo l lad ts0 m) (WalkR.at_ l m)) := Lib.hid (passTo_succ _ _ _ _)
              have Hlen := Lib.hid Hg1.len
              have htT := Hg1.top hp2 (WalkR.at_ l m).To.toNat (by omega)
              have htF := Hg1.top hp2 (WalkR.at_ l m).From.toNat (by omega)
              generalize passTo l lad ts0 m = cur at *
              have hcT := own_nth ho (j := (WalkR.at_ l m).To.toNat) (by omega)
              have hcF := own_nth ho (j := (WalkR.at_ l m).From.toNat) (by omega)
              have hfz := ho.frozenAt (j := (WalkR.at_ l m).From.toNat)
              have hq : IntKind.i64.wrap ((WalkR.at_ l m).Seconds + nth cur (WalkR.at_ l m).To.toNat) = (WalkR.at_ l m).Seconds + nth cur (WalkR.at_ l m).To.toNat := IntWalk.i64_in _ (by omega)
              have Ho := Lib.hid ho
              clear ho Hg1
              cases b1 : (WalkR.at_ l m).Ladder with
              | false =>
                by_cases c0 : nth cur (WalkR.at_ l m).To.toNat < 0
                · have d0 : decide (nth cur (WalkR.at_ l m).To.toNat < 0) = true := by simp; omega
                  have Hs : Hid (relax lad cur (WalkR.at_ l m) = cur) := Lib.hid (by unfold relax; simp only [b1, d0]; simp)
                  go_wp2_with fail
                  have hgk2 := Hgk2.out
                  go_roundg (gk - 1)
                  case rel => exact ⟨m + 1, f, by omega, by omega, by go_num, rfl, by rw [Hpass.out, Hs.out]; exact Ho.out.alloc _, hb.alloc (by omega) _, by rw [Hpass.out, Hs.out]; exact Hf.out⟩
                  case measure => omega
                · have d0 : decide (nth cur (WalkR.at_ l m).To.toNat < 0) = false := by simp; omega
                  by_cases c1 : nth cur (WalkR.at_ l m).From.toNat < 0
                  · have d1 : decide (nth cur (WalkR.at_ l m).From.toNat < 0) = true := by simp; omega
                    have Hs : Hid (relax lad cur (WalkR.at_ l m) = cur.set (WalkR.at_ l m).From.toNat (nth cur (WalkR.at_ l m).To.toNat + (WalkR.at_ l m).Seconds)) := Lib.hid (by unfold relax; simp only [b1, d0, d1]; simp)
                    have Hs2 : Hid (relax lad cur (WalkR.at_ l m) = cur.set (WalkR.at_ l m).From.toNat ((WalkR.at_ l m).Seconds + nth cur (WalkR.at_ l m).To.toNat)) := Lib.hid (by rw [Hs.out, Int.add_comm])
                    have hcost : Hid (costT (relax lad cur (WalkR.at_ l m)) < costT ts0) := by
                      have hlow : costT (relax lad cur (WalkR.at_ l m)) < costT cur := by
                        rcases Hrg.out with e | e
                        · exfalso
                          have e2 := congrArg (fun t => nth t (WalkR.at_ l m).From.toNat) (Hs.out.symm.trans e)
                          change nth (cur.set _ _) _ = nth cur _ at e2
                          rw [nth_set (by rw [Hlen.out]; omega), if_pos rfl] at e2
                          omega
                        · exact e
                      refine Lib.hid ?_
                      rcases Hf.out with ⟨_, e⟩ | ⟨_, e⟩
                      · rw [← e]; exact hlow
                      · omega
                    go_wp2_with fail
                    go_quiet (fail)
                    go_wp2_with fail
                    have hgk2 := Hgk2.out
                    go_roundg (gk - 1)
                    case rel => exact ⟨m + 1, true, by omega, by omega, by go_num, rfl, by rw [Hpass.out, Hs2.out]; exact own_put (by exact Ho.out.alloc _) _, (below_drewN (hb.alloc (by omega) _) _).setCell hg1 _, .inr ⟨rfl, by rw [Hpass.out]; exact hcost.out⟩⟩
                    case measure => omega
                  · have d1 : decide (nth cur (WalkR.at_ l m).From.toNat < 0) = false := by simp; omega
                    by_cases c2 : nth cur (WalkR.at_ l m).To.toNat + (WalkR.at_ l m).Seconds < nth cur (WalkR.at_ l m).From.toNat
                    · have d3 : decide ((WalkR.at_ l m).Seconds + nth cur (WalkR.at_ l m).To.toNat < nth cur (WalkR.at_ l m).From.toNat) = true := by simp; omega
                      have d2 : decide (nth cur (WalkR.at_ l m).To.toNat + (WalkR.at_ l m).Seconds < nth cur (WalkR.at_ l m).From.toNat) = true := by simp; omega
                      have Hs : Hid (relax lad cur (WalkR.at_ l m) = cur.set (WalkR.at_ l m).From.toNat (nth cur (WalkR.at_ l m).To.toNat + (WalkR.at_ l m).Seconds)) := Lib.hid (by unfold relax; simp only [b1, d0, d1, d2]; simp)
                      have Hs2 : Hid (relax lad cur (WalkR.at_ l m) = cur.set (WalkR.at_ l m).From.toNat ((WalkR.at_ l m).Seconds + nth cur (WalkR.at_ l m).To.toNat)) := Lib.hid (by rw [Hs.out, Int.add_comm])
                      have hcost : Hid (costT (relax lad cur (WalkR.at_ l m)) < costT ts0) := by
                        have hlow : costT (relax lad cur (WalkR.at_ l m)) < costT cur := by
                          rcases Hrg.out with e | e
                          · exfalso
                            have e2 := congrArg (fun t => nth t (WalkR.at_ l m).From.toNat) (Hs.out.symm.trans e)
                            change nth (cur.set _ _) _ = nth cur _ at e2
                            rw [nth_set (by rw [Hlen.out]; omega), if_pos rfl] at e2
                            omega
                          · exact e
                        refine Lib.hid ?_
                        rcases Hf.out with ⟨_, e⟩ | ⟨_, e⟩
                        · rw [← e]; exact hlow
                        · omega
                      go_wp2_with fail
                      go_quiet (fail)
                      go_wp2_with fail
                      have hgk2 := Hgk2.out
                      go_roundg (gk - 1)
                      case rel => exact ⟨m + 1, true, by omega, by omega, by go_num, rfl, by rw [Hpass.out, Hs2.out]; exact own_put (by exact Ho.out.alloc _) _, (below_drewN (hb.alloc (by omega) _) _).setCell hg1 _, .inr ⟨rfl, by rw [Hpass.out]; exact hcost.out⟩⟩
                      case measure => omega
                    · have d3 : decide ((WalkR.at_ l m).Seconds + nth cur (WalkR.at_ l m).To.toNat < nth cur (WalkR.at_ l m).From.toNat) = false := by simp; omega
                      have d2 : decide (nth cur (WalkR.at_ l m).To.toNat + (WalkR.at_ l m).Seconds < nth cur (WalkR.at_ l m).From.toNat) = false := by simp; omega
                      have Hs : Hid (relax lad cur (WalkR.at_ l m) = cur) := Lib.hid (by unfold relax; simp only [b1, d0, d1, d2]; simp)
                      go_wp2_with fail
                      go_quiet (fail)
                      go_wp2_with fail
                      have hgk2 := Hgk2.out
                      go_roundg (gk - 1)
                      case rel => exact ⟨m + 1, f, by omega, by omega, by go_num, rfl, by rw [Hpass.out, Hs.out]; exact Ho.out.alloc _, below_drewN (hb.alloc (by omega) _) _, by rw [Hpass.out, Hs.out]; exact Hf.out⟩
                      case measure => omega
              | true =>
              cases lad with
              | false =>
                have Hs : Hid (relax false cur (WalkR.at_ l m) = cur) := Lib.hid (by unfold relax; simp only [b1]; simp)
                go_wp2_with fail
                have hgk2 := Hgk2.out
                go_roundg (gk - 1)
                case rel => exact ⟨m + 1, f, by omega, by omega, by go_num, rfl, by rw [Hpass.out, Hs.out]; exact Ho.out.alloc _, hb.alloc (by omega) _, by rw [Hpass.out, Hs.out]; exact Hf.out⟩
                case measure => omega
              | true =>
                by_cases c0 : nth cur (WalkR.at_ l m).To.toNat < 0
                · have d0 : decide (nth cur (WalkR.at_ l m).To.toNat < 0) = true := by simp; omega
                  have Hs : Hid (relax true cur (WalkR.at_ l m) = cur) := Lib.hid (by unfold relax; simp only [b1, d0]; simp)
                  go_wp2_with fail
                  have hgk2 := Hgk2.out
                  go_roundg (gk - 1)
                  case rel => exact ⟨m + 1, f, by omega, by omega, by go_num, rfl, by rw [Hpass.out, Hs.out]; exact Ho.out.alloc _, hb.alloc (by omega) _, by rw [Hpass.out, Hs.out]; exact Hf.out⟩
                  case measure => omega
                · have d0 : decide (nth cur (WalkR.at_ l m).To.toNat < 0) = false := by simp; omega
                  by_cases c1 : nth cur (WalkR.at_ l m).From.toNat < 0
                  · have d1 : decide (nth cur (WalkR.at_ l m).From.toNat < 0) = true := by simp; omega
                    have Hs : Hid (relax true cur (WalkR.at_ l m) = cur.set (WalkR.at_ l m).From.toNat (nth cur (WalkR.at_ l m).To.toNat + (WalkR.at_ l m).Seconds)) := Lib.hid (by unfold relax; simp only [b1, d0, d1]; simp)
                    have Hs2 : Hid (relax true cur (WalkR.at_ l m) = cur.set (WalkR.at_ l m).From.toNat ((WalkR.at_ l m).Seconds + nth cur (WalkR.at_ l m).To.toNat)) := Lib.hid (by rw [Hs.out, Int.add_comm])
                    have hcost : Hid (costT (relax true cur (WalkR.at_ l m)) < costT ts0) := by
                      have hlow : costT (relax true cur (WalkR.at_ l m)) < costT cur := by
                        rcases Hrg.out with e | e
                        · exfalso
                          have e2 := congrArg (fun t => nth t (WalkR.at_ l m).From.toNat) (Hs.out.symm.trans e)
                          change nth (cur.set _ _) _ = nth cur _ at e2
                          rw [nth_set (by rw [Hlen.out]; omega), if_pos rfl] at e2
                          omega
                        · exact e
                      refine Lib.hid ?_
                      rcases Hf.out with ⟨_, e⟩ | ⟨_, e⟩
                      · rw [← e]; exact hlow
                      · omega
                    go_wp2_with fail
                    go_quiet (fail)
                    go_wp2_with fail
                    have hgk2 := Hgk2.out
                    go_roundg (gk - 1)
                    case rel => exact ⟨m + 1, true, by omega, by omega, by go_num, rfl, by rw [Hpass.out, Hs2.out]; exact own_put (by exact Ho.out.alloc _) _, (below_drewN (hb.alloc (by omega) _) _).setCell hg1 _, .inr ⟨rfl, by rw [Hpass.out]; exact hcost.out⟩⟩
                    case measure => omega
                  · have d1 : decide (nth cur (WalkR.at_ l m).From.toNat < 0) = false := by simp; omega
                    by_cases c2 : nth cur (WalkR.at_ l m).To.toNat + (WalkR.at_ l m).Seconds < nth cur (WalkR.at_ l m).From.toNat
                    · have d3 : decide ((WalkR.at_ l m).Seconds + nth cur (WalkR.at_ l m).To.toNat < nth cur (WalkR.at_ l m).From.toNat) = true := by simp; omega
                      have d2 : decide (nth cur (WalkR.at_ l m).To.toNat + (WalkR.at_ l m).Seconds < nth cur (WalkR.at_ l m).From.toNat) = true := by simp; omega
                      have Hs : Hid (relax true cur (WalkR.at_ l m) = cur.set (WalkR.at_ l m).From.toNat (nth cur (WalkR.at_ l m).To.toNat + (WalkR.at_ l m).Seconds)) := Lib.hid (by unfold relax; simp only [b1, d0, d1, d2]; simp)
                      have Hs2 : Hid (relax true cur (WalkR.at_ l m) = cur.set (WalkR.at_ l m).From.toNat ((WalkR.at_ l m).Seconds + nth cur (WalkR.at_ l m).To.toNat)) := Lib.hid (by rw [Hs.out, Int.add_comm])
                      have hcost : Hid (costT (relax true cur (WalkR.at_ l m)) < costT ts0) := by
                        have hlow : costT (relax true cur (WalkR.at_ l m)) < costT cur := by
                          rcases Hrg.out with e | e
                          · exfalso
                            have e2 := congrArg (fun t => nth t (WalkR.at_ l m).From.toNat) (Hs.out.symm.trans e)
                            change nth (cur.set _ _) _ = nth cur _ at e2
                            rw [nth_set (by rw [Hlen.out]; omega), if_pos rfl] at e2
                            omega
                          · exact e
                        refine Lib.hid ?_
                        rcases Hf.out with ⟨_, e⟩ | ⟨_, e⟩
                        · rw [← e]; exact hlow
                        · omega
                      go_wp2_with fail
                      go_quiet (fail)
                      go_wp2_with fail
                      have hgk2 := Hgk2.out
                      go_roundg (gk - 1)
                      case rel => exact ⟨m + 1, true, by omega, by omega, by go_num, rfl, by rw [Hpass.out, Hs2.out]; exact own_put (by exact Ho.out.alloc _) _, (below_drewN (hb.alloc (by omega) _) _).setCell hg1 _, .inr ⟨rfl, by rw [Hpass.out]; exact hcost.out⟩⟩
                      case measure => omega
                    · have d3 : decide ((WalkR.at_ l m).Seconds + nth cur (WalkR.at_ l m).To.toNat < nth cur (WalkR.at_ l m).From.toNat) = false := by simp; omega
                      have d2 : decide (nth cur (WalkR.at_ l m).To.toNat + (WalkR.at_ l m).Seconds < nth cur (WalkR.at_ l m).From.toNat) = false := by simp; omega
                      have Hs : Hid (relax true cur (WalkR.at_ l m) = cur) := Lib.hid (by unfold relax; simp only [b1, d0, d1, d2]; simp)
                      go_wp2_with fail
                      go_quiet (fail)
                      go_wp2_with fail
                      have hgk2 := Hgk2.out
                      go_roundg (gk - 1)
                      case rel => exact ⟨m + 1, f, by omega, by omega, by go_num, rfl, by rw [Hpass.out, Hs.out]; exact Ho.out.alloc _, below_drewN (hb.alloc (by omega) _) _, by rw [Hpass.out, Hs.out]; exact Hf.out⟩
                      case measure => omega
            · have hme : m = n := by omega
              have hlast : passTo l lad ts0 l.length = passTo l lad ts0 m := by rw [HL.out, hme]
              rcases Hf.out with ⟨rfl, e⟩ | ⟨rfl, e⟩
              · go_wp2_with fail
                have hgk := Hgk.out
                go_roundg 0
                case rel => exact ⟨r, ts0, hts, by rw [← e]; exact ho, hb, .inr ⟨rfl, rfl, by rw [hlast, e]⟩⟩
                case measure => omega
              · go_wp2_with fail
                have hgk := Hgk.out
                go_roundg (costT (passTo l lad ts0 m) + 1)
                case rel => exact ⟨r + 1, passTo l lad ts0 m, Hts.out _ hlast, ho, hb, .inl ⟨rfl, rfl⟩⟩
                case measure => omega
        · rw [hts] at hfix
          have hfin := Hsame.out r hfix
          rw [← hts] at hfin
          rw [hfin] at ho
          go_wp2_with fail
          go_ret
          have hgd := Hgd.out
          subst hgd
          exact ⟨_, P, rfl, ho, hb⟩
end Go.Proofs.Ytcppogfffgdjhaa
