import Derived.Test.YtgbahfggnbpnmaaDoorLawK
import Derived.Test.YtgbahfggnbpnmaaDoorJoin
/-
  Texts that came in, as the walks name them.
-/
namespace Go.Proofs.YtgbahfggnbpnmaaDoor
open Go.RowKit
theorem TextIn.txt {W : World} {a : Option Addr} {n c : Nat} {l : List UInt8} (h : TextIn W a n c l) : Txt W a n c l := ⟨h.len, h.fit, h.rd, h.old⟩
theorem parts_in {W : World} {a : Option Addr} {ls : List (List UInt8)}
    (h : ∀ i, i < ls.length → ∃ b o a' n' cap', a = some ⟨b, o, none⟩ ∧ W.cell? ⟨b, o + i, none⟩ = some (.slice a' n' cap') ∧ TextIn W a' n' cap' (ls.getD i [])) : Parts W (· < W.heap.size) a ls := fun i hi => by
  obtain ⟨b, o, a', n', cap', e, h1, h2⟩ := h i hi
  exact ⟨b, o, a', n', cap', e, block_lt_of_cell (a := ⟨b, o + i, none⟩) h1, h1, h2.len, h2.fit, h2.rd, h2.old⟩
end Go.Proofs.YtgbahfggnbpnmaaDoor
