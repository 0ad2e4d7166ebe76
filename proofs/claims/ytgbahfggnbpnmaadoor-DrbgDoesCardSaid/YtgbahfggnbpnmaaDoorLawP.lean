import Derived.Test.YtgbahfggnbpnmaaDoorLawK
import Derived.Test.YtgbahfggnbpnmaaDoorJoin
import Derived.Test.YtgbahfggnbpnmaaDoorPieces
/-
  Texts that came in, as the walks name them.
-/
namespace Go.Proofs.YtgbahfggnbpnmaaDoor
open Go.ChangeShapes Go.WideShapes Go.ChangeAt Go.RowKit Go.Deep
theorem TextIn.txt {W : World} {a : Option Addr} {n c : Nat} {l : List UInt8} (h : TextIn W a n c l) : Txt W a n c l := ⟨h.len, h.fit, h.rd, h.old⟩
theorem parts_in {W : World} {a : Option Addr} {ls : List (List UInt8)}
    (h : ∀ i, i < ls.length → ∃ b o a' n' cap', a = some ⟨b, o, none⟩ ∧ W.cell? ⟨b, o + i, none⟩ = some (.slice a' n' cap') ∧ TextIn W a' n' cap' (ls.getD i [])) : Parts W (· < W.heap.size) a ls := fun i hi => by
  obtain ⟨b, o, a', n', cap', e, h1, h2⟩ := h i hi
  exact ⟨b, o, a', n', cap', e, block_lt_of_cell (a := ⟨b, o + i, none⟩) h1, h1, h2.len, h2.fit, h2.rd, h2.old⟩
theorem nat_u16 {m : Int} (h : (Lit.int .u16 m).wf = true) : ∃ N : Nat, m = (N : Int) ∧ N < 65536 := by
  have := bounds_u16 h
  exact ⟨m.toNat, by omega, by omega⟩
theorem nat_u8 {m : Int} (h : (Lit.int .u8 m).wf = true) : ∃ x : UInt8, m = (x.toNat : Int) := ⟨UInt8.ofNat m.toNat, u8_of h⟩
theorem nat_u64 {m : Int} (h : (Lit.int .u64 m).wf = true) : ∃ N : Nat, m = (N : Int) ∧ N < 18446744073709551616 := by
  have := bounds_u64 h
  exact ⟨m.toNat, by omega, by omega⟩
theorem open_nums {H : Type} {enc : TypeId × Value → H} {P : Program} {W : World} {t e : TypeId} {base : Nat} {v : Value} {d : DataW H} {ps : List MemPlace} (ht : P.underlying t = some (.slice e)) (he : P.underlying e = some (.int .u16)) (hc : P.cellsOf e = 1)
    (hv : Value.okWide P W .any base t v) (h : DataW.Trod enc P W 0 (fun _ => true) true t v d ps) : ∃ (a : Option Addr) (n cap : Nat) (zs : List Nat), v = .slice a n cap ∧ NumsIn W .u16 a n cap zs ∧ ∀ i, i < zs.length → zs.getD i 0 < 65536 := by
  obtain ⟨a0, n, cap, rfl⟩ := okWide_slice ht hv
  obtain ⟨fuel, hf⟩ := h
  simp only [Value.cells] at hf
  rcases open_ints ht he hc hf with ⟨hcs, _⟩ | ⟨a, len, cap', zs, hcs, _, hl, hm, hz, _, hcell, hw⟩
  · simp at hcs
    obtain ⟨rfl, rfl, rfl⟩ := hcs
    exact ⟨_, _, _, [], rfl, ⟨rfl, Nat.le_refl _, by simp [maxLen], fun i hi => by simp at hi⟩, fun i hi => by simp at hi⟩
  · simp at hcs
    obtain ⟨rfl, rfl, rfl⟩ := hcs
    simp only [if_true] at hz
    have hlen : ((zs.take n).map Int.toNat).length = n := by simp; omega
    have hget : ∀ i, i < n → (((zs.take n).map Int.toNat).getD i 0 : Int) = zs.getD i 0 ∧ 0 ≤ zs.getD i 0 ∧ zs.getD i 0 ≤ 65535 := by
      intro i hi
      have hi2 : i < zs.length := by omega
      have hb := bounds_u16 (hw zs[i] (List.getElem_mem hi2))
      have e1 : ((zs.take n).map Int.toNat).getD i 0 = zs[i].toNat := by simp [List.getD, List.getElem?_take, hi, hi2]
      have e2 : zs.getD i 0 = zs[i] := by simp [List.getD, hi2]
      rw [e1, e2]; omega
    obtain ⟨b, off, spot⟩ := a
    refine ⟨_, n, cap, (zs.take n).map Int.toNat, rfl, ⟨hlen.symm, hl, hm, fun i hi => ?_⟩, fun i hi => ?_⟩
    · rw [hlen] at hi
      have h0 := hcell i (by omega)
      have hspot : spot = none := by simpa [Addr.add] using World.cell?_spot (hcell 0 (by omega))
      subst hspot
      have e : (⟨b, off, none⟩ : Addr).add i = ⟨b, off + i, none⟩ := by unfold Addr.add; split <;> simp_all
      rw [e] at h0
      exact ⟨b, off, rfl, by rw [h0, (hget i hi).1], block_lt_of_cell h0⟩
    · rw [hlen] at hi
      have := hget i hi; omega
theorem cells_u16 : Tryd.prog.cellsOf 36 = 1 := by kernel_rfl
end Go.Proofs.YtgbahfggnbpnmaaDoor
