/- Evacuation: what NearestExit and WorstPlace tell, in one fact. -/
import Derived.Test.YtcppogfffgdjhaaFc
namespace Go.Proofs.Ytcppogfffgdjhaa
open Go.RowKit
set_option linter.unusedVariables false
theorem exits_pack {P : Nat} {l : List WalkR} {ys : List Int} (lad : Bool) (hw : walksB (P : Int) l = true) (hP : 1 ≤ P ∧ P ≤ 16) (hy : ExitsOk P ys) {v : Nat} (hv : v < P) :
    ∃ ne nt nc wv wt wc : Int, rNear P l v ys lad = (ne, nt, nc) ∧ rWorst P l ys lad = (wv, wt, wc) ∧
      ((ys.length = 0 ∧ nc = 3 ∧ wc = 3 ∧ nth (timesR P l ys lad) v < 0 ∧ ∀ u, u < P → nth (timesR P l ys lad) u < 0) ∨
       (0 < ys.length ∧ wc = 0 ∧ 0 ≤ wv ∧ wv < P ∧ (∀ u : Nat, u < P → nth (timesR P l ys lad) u ≤ wt ∧ ((u : Int) = wv → nth (timesR P l ys lad) u = wt)) ∧
         ((nc = 3 ∧ nth (timesR P l ys lad) v < 0) ∨ (nc = 0 ∧ 0 ≤ nth (timesR P l ys lad) v ∧ nt = nth (timesR P l ys lad) v ∧ ys.any (fun y => y == ne) = true)))) := by
  have hn := near_ok lad hw hP hy hv
  rcases worst_ok lad hw hP hy with ⟨h0, hW⟩ | ⟨h0, u, hu, hW, hm⟩
  · have ha := fun u (hu : u < P) => empty_neg lad hw hP hy h0 hu
    rcases hn with ⟨h1, e1⟩ | ⟨h1, _⟩
    · exact ⟨0, 0, 3, 0, 0, 3, e1, hW, .inl ⟨h0, rfl, rfl, ha v hv, ha⟩⟩
    · have := ha v hv; omega
  · have hx : ∀ u' : Nat, u' < P → nth (timesR P l ys lad) u' ≤ nth (timesR P l ys lad) u ∧ ((u' : Int) = (u : Int) → nth (timesR P l ys lad) u' = nth (timesR P l ys lad) u) := by
      intro u' hu'
      refine ⟨hm u' hu', fun e => ?_⟩
      have e2 : u' = u := by omega
      rw [e2]
    rcases hn with ⟨h1, e1⟩ | ⟨h1, ne, hne, e1⟩
    · exact ⟨0, 0, 3, u, _, 0, e1, hW, .inr ⟨h0, rfl, by omega, by omega, hx, .inl ⟨rfl, h1⟩⟩⟩
    · exact ⟨ne, _, 0, u, _, 0, e1, hW, .inr ⟨h0, rfl, by omega, by omega, hx, .inr ⟨rfl, h1, rfl, hne⟩⟩⟩
end Go.Proofs.Ytcppogfffgdjhaa
