import Derived.Test.YtgbahfggnbpnmaaLawQ
import Derived.SizedLaws
/-
  A text that came in takes no more than the form's own reach.
-/
namespace Go.Proofs.Ytgbahfggnbpnmaa
open Go.ChangeShapes Go.WideShapes Go.ChangeAt Go.RowKit Go.Deep
theorem bytes_u8p : Try.prog.bytesOf 5 = 1 := by kernel_rfl
theorem open_textd {H : Type} {enc : TypeId × Value → H} {P : Program} {W : World} {t e : TypeId} {base : Nat} {v : Value} {d : DataW H} {ps : List MemPlace} (ht : P.underlying t = some (.slice e)) (he : P.underlying e = some (.int .u8)) (hc : P.cellsOf e = 1)
    (hv : Value.okWide P W .any base t v) (h : DataW.Trod enc P W 0 (fun _ => true) true t v d ps) : ∃ a n cap l, v = .slice a n cap ∧ TextIn W a n cap l ∧ (n = 0 ∨ ∃ el sp, d = .slice el sp ∧ el.length = n) := by
  obtain ⟨a0, n, cap, rfl⟩ := okWide_slice ht hv
  obtain ⟨fuel, hf⟩ := h
  simp only [Value.cells] at hf
  rcases open_ints ht he hc hf with ⟨hcs, _⟩ | ⟨a, len, cap', zs, hcs, _, hl, hm, hz, hx, hcell, hw⟩
  · simp at hcs
    obtain ⟨rfl, rfl, rfl⟩ := hcs
    exact ⟨_, _, _, [], rfl, TextIn.nil W, .inl rfl⟩
  · simp at hcs
    obtain ⟨rfl, rfl, rfl⟩ := hcs
    simp only [if_true] at hz
    exact ⟨_, _, _, _, rfl, text_cells hl hm hz (fun i hi => hcell i (by omega)) hw, .inr ⟨_, _, congrArg Prod.fst hx, by rw [show (lits (H := H) IntKind.u8 (zs.take n)).length = (zs.take n).length by simp [lits], List.length_take]; omega⟩⟩
theorem textd_len {H : Type} {ts : List TypeId} {ds : List (DataW H)} {l : List UInt8} {n : Nat} {d : DataW H} {j : Nat} (hsz : (DataW.weightsEach Try.prog ts ds).all (· ≤ reachBytes) = true) (ht : ts[j]? = some 30) (hd : ds[j]? = some d)
    (h : n = 0 ∨ ∃ el sp, d = .slice el sp ∧ el.length = n) (hn : n = l.length) : l.length ≤ 140737488355328 := by
  rcases h with h | ⟨el, sp, rfl, h⟩
  · omega
  · have := sized_slice hsz ht hd Try.underlying30
    rw [bytes_u8p] at this
    simp only [reachBytes] at this
    omega
end Go.Proofs.Ytgbahfggnbpnmaa
