/- Arrivals: ArrivalsText: contracts of both sides, for whatever arguments. -/
import Derived.Test.YtngbdjbgbjbjaaaGreatDoorTg0
namespace Go.Proofs.YtngbdjbgbjbjaaaGreatDoor
open Go.RowKit
set_option maxRecDepth 100000
set_option linter.unusedVariables false
set_option linter.unusedSimpArgs false

def rArrivalsText (zs : List Int) : ByteArray := if arrB zs then jn 43 (zs.map Int.toNat) else ⟨#[]⟩
theorem arr_nats {zs : List Int} (h : arrB zs = true) : ciT (zs.map Int.toNat) = zs ∧ (∀ v ∈ zs.map Int.toNat, v ≤ 1000) ∧ 1 ≤ zs.length ∧ zs.length ≤ 60 := by
  obtain ⟨h1, h2, h3⟩ := arrB_true.1 h
  refine ⟨?_, ?_, h2, h3⟩
  · unfold ciT
    rw [List.map_map]
    conv => rhs; rw [← List.map_id zs]
    refine List.map_congr_left fun z hz => ?_
    have := h1 z hz
    show ((z.toNat : Nat) : Int) = z
    omega
  · intro v hv
    rw [List.mem_map] at hv
    obtain ⟨z, hz, rfl⟩ := hv
    have := h1 z hz
    omega
theorem implArrivalsText_any {A : Option Addr} {n c B : Nat} {zs : List Int} {w : World} (h : Ints w B A n zs) (hB : B ≤ w.heap.size) (hc : n ≤ c) (hn : n ≤ 1048576) (ht : TabOk w) :
    Calls Tryz.prog 11 #[.slice A n c] w fun e w' => e = .returned (.string (rArrivalsText zs)) ∧ Below w.heap.size w w' := by
  have HL := Lib.hid h.len
  cases hv : arrB zs with
  | false =>
    have Hok := Lib.hid (validArrivals_any A n c B zs w h (by omega))
    have Hr : Hid (rArrivalsText zs = ⟨#[]⟩) := Lib.hid (by unfold rArrivalsText; rw [hv]; rfl)
    rw [hv] at Hok
    clear hv
    go_enter Tryz.func11, Tryz.ntmps11
    go_wp2_with (go_at_call 32; refine Hok.out.mono ?_; rintro e w' ⟨rfl, rfl⟩)
    go_ret
    exact ⟨ret_strT (by rw [Hr.out]), Below.refl _ _⟩
  | true =>
    obtain ⟨h1, h2, h3, h4⟩ := arr_nats hv
    have hr : rArrivalsText zs = jn 43 (zs.map Int.toNat) := by unfold rArrivalsText; rw [hv]; rfl
    have hl := HL.out
    rw [hr]
    exact implArrivalsText_go (by rw [h1]; exact h) hB (by omega) (by omega) (fun v hv => by have := h2 v hv; omega) ht
end Go.Proofs.YtngbdjbgbjbjaaaGreatDoor
