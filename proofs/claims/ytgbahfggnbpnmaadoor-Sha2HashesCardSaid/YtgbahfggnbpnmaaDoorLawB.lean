import Derived.Test.YtgbahfggnbpnmaaDoorLawK
import Derived.Test.YtgbahfggnbpnmaaDoorLawHashes
import Derived.Deep.Grids
/-
  Bools that came in, as the walks name them.
-/
namespace Go.Proofs.YtgbahfggnbpnmaaDoor
open Go.ChangeShapes Go.WideShapes Go.ChangeAt Go.RowKit Go.Deep
theorem cells_bool : Tryd.prog.cellsOf 4 = 1 := by kernel_rfl
theorem open_boolsIn {H : Type} {enc : TypeId × Value → H} {P : Program} {W : World} {t e : TypeId} {base : Nat} {v : Value} {d : DataW H} {ps : List MemPlace} (ht : P.underlying t = some (.slice e)) (he : P.underlying e = some .bool) (hc : P.cellsOf e = 1)
    (hv : Value.okWide P W .any base t v) (h : DataW.Trod enc P W 0 (fun _ => true) true t v d ps) : ∃ (a : Option Addr) (n cap : Nat) (bs : List Bool), v = .slice a n cap ∧ BoolsIn W a n cap bs := by
  obtain ⟨a0, n, cap, rfl⟩ := okWide_slice ht hv
  obtain ⟨fuel, hf⟩ := h
  simp only [Value.cells] at hf
  rcases open_bools ht he hc hf with ⟨hcs, _⟩ | ⟨a, len, cap', B, hcs, _, hl, hm, _, hcell⟩
  · simp at hcs
    obtain ⟨rfl, rfl, rfl⟩ := hcs
    exact ⟨_, _, _, [], rfl, ⟨rfl, Nat.le_refl _, by simp [maxLen], fun i hi => by simp at hi⟩⟩
  · simp at hcs
    obtain ⟨rfl, rfl, rfl⟩ := hcs
    obtain ⟨b, off, spot⟩ := a
    refine ⟨_, n, cap, (List.range n).map B, rfl, ⟨by simp, hl, hm, fun i hi => ?_⟩⟩
    simp only [List.length_map, List.length_range] at hi
    have h0 := hcell i (by omega)
    have hspot : spot = none := by simpa [Addr.add] using World.cell?_spot (hcell 0 (by omega))
    subst hspot
    have e : (⟨b, off, none⟩ : Addr).add i = ⟨b, off + i, none⟩ := by unfold Addr.add; split <;> simp_all
    rw [e] at h0
    exact ⟨b, off, rfl, by rw [h0]; simp [List.getD, hi], block_lt_of_cell h0⟩
end Go.Proofs.YtgbahfggnbpnmaaDoor
