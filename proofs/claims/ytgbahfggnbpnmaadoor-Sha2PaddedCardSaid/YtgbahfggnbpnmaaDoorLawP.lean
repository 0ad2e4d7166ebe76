import Derived.Test.YtgbahfggnbpnmaaDoorLawK
import Derived.Test.YtgbahfggnbpnmaaDoorJoin
/-
  Texts that came in, as the walks name them.
-/
namespace Go.Proofs.YtgbahfggnbpnmaaDoor
open Go.RowKit
theorem TextIn.txt {W : World} {a : Option Addr} {n c : Nat} {l : List UInt8} (h : TextIn W a n c l) : Txt W a n c l := ⟨h.len, h.fit, h.rd, h.old⟩
theorem parts_in {W : World} {a : Option Addr} {ls : List (List UInt8)}
    (h : ∀ i, i < ls.length → ∃ b o a' n' cap', a = some ⟨b, o, none⟩ ∧ W.cell? ⟨b, o + i, none⟩ = some (.slice a' n' cap') ∧ TextIn W a' n' cap' (ls.getD i [])) : Parts W (· < W.heap.size) a ls := fun i hi => by
  obtain ⟨b, o, a', n', cap', e, h1, h2⟩ := h i hi
  exact ⟨b, o, a', n', cap', e, block_lt_of_cell (a := ⟨b, o + i, none⟩) h1, h1, h2.len, h2.fit, h2.rd, h2.old⟩
theorem nat_u16 {m : Int} (h : (Lit.int .u16 m).wf = true) : ∃ N : Nat, m = (N : Int) ∧ N < 65536 := by
  have := bounds_u16 h
  exact ⟨m.toNat, by omega, by omega⟩
theorem nat_u8 {m : Int} (h : (Lit.int .u8 m).wf = true) : ∃ x : UInt8, m = (x.toNat : Int) := ⟨UInt8.ofNat m.toNat, u8_of h⟩
theorem nat_u64 {m : Int} (h : (Lit.int .u64 m).wf = true) : ∃ N : Nat, m = (N : Int) ∧ N < 18446744073709551616 := by
  have := bounds_u64 h
  exact ⟨m.toNat, by omega, by omega⟩
end Go.Proofs.YtgbahfggnbpnmaaDoor
