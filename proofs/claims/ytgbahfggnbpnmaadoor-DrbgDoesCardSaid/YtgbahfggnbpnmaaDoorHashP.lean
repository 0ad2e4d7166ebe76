import Derived.Test.YtgbahfggnbpnmaaDoorMem
import Derived.Test.YtgbahfggnbpnmaaDoorSha
/-
  A Hash's cells, and what they mean. No program in sight.
-/
namespace Go.Proofs.YtgbahfggnbpnmaaDoor
open Go.RowKit

def hlist (st : List UInt32) (rest : List UInt8) (held total : Int) : List Value := Value.bool true :: (st.map wv ++ (rest.map bv ++ [.int .i64 held, .int .i64 total]))
def hcells (st : List UInt32) (rest : List UInt8) (held total : Int) : Array Value := (hlist st rest held total).toArray
section
variable {st : List UInt32} {rest : List UInt8} {held total : Int} (h8 : st.length = 8) (h64 : rest.length = 64)
include h8 h64
theorem hlist_len : (hlist st rest held total).length = 75 := by simp [hlist, h8, h64]
theorem hcells_size : (hcells st rest held total).size = 75 := by simp [hcells, hlist_len h8 h64]
omit h8 h64 in
theorem hcells_made : (hcells st rest held total)[0]? = some (.bool true) := by simp [hcells, hlist]
omit h64 in
theorem hcells_st (i : Nat) (hi : i < 8) : (hcells st rest held total)[1 + i]? = (st.map wv)[i]? := by
  simp only [hcells, hlist, List.getElem?_toArray, Nat.add_comm 1 i, List.getElem?_cons_succ]
  rw [List.getElem?_append_left (by simp [h8]; exact hi)]
theorem hcells_rest (i : Nat) (hi : i < 64) : (hcells st rest held total)[9 + i]? = (rest.map bv)[i]? := by
  simp only [hcells, hlist, List.getElem?_toArray, show 9 + i = (8 + i) + 1 by omega, List.getElem?_cons_succ]
  rw [List.getElem?_append_right (by simp [h8]), List.getElem?_append_left (by simp [h8, h64]; omega)]
  simp [h8]
theorem hcells_held : (hcells st rest held total)[73]? = some (.int .i64 held) := by
  simp only [hcells, hlist, List.getElem?_toArray, List.getElem?_cons_succ]
  rw [List.getElem?_append_right (by simp [h8]), List.getElem?_append_right (by simp [h8, h64])]
  simp [h8, h64]
theorem hcells_total : (hcells st rest held total)[74]? = some (.int .i64 total) := by
  simp only [hcells, hlist, List.getElem?_toArray, List.getElem?_cons_succ]
  rw [List.getElem?_append_right (by simp [h8]), List.getElem?_append_right (by simp [h8, h64])]
  simp [h8, h64]
theorem hcells_set_held (x : Int) : (hcells st rest held total).setIfInBounds 73 (.int .i64 x) = hcells st rest x total := by
  simp only [hcells, hlist, List.setIfInBounds_toArray, List.set_cons_succ]
  rw [List.set_append_right _ _ (by simp [h8]), List.set_append_right _ _ (by simp [h8, h64])]
  simp [h8, h64]
theorem hcells_set_total (x : Int) : (hcells st rest held total).setIfInBounds 74 (.int .i64 x) = hcells st rest held x := by
  simp only [hcells, hlist, List.setIfInBounds_toArray, List.set_cons_succ]
  rw [List.set_append_right _ _ (by simp [h8]), List.set_append_right _ _ (by simp [h8, h64])]
  simp [h8, h64]
omit h64 in
theorem hcells_splice_st (st' : List UInt32) (h8' : st'.length = 8) : (splice (hcells st rest held total).toList 1 (st'.map wv)).toArray = hcells st' rest held total := by
  simp only [hcells, hlist, splice, List.length_map, h8']
  simp only [List.take_succ_cons, List.take_zero, show 1 + 8 = 8 + 1 by omega, List.drop_succ_cons]
  rw [List.drop_append_of_le_length (by simp [h8]), List.drop_of_length_le (by simp [h8])]
  simp
theorem hcells_splice_rest (k : Nat) (c : List UInt8) (hk : k + c.length ≤ 64) : (splice (hcells st rest held total).toList (9 + k) (c.map bv)).toArray = hcells st (splice rest k c) held total := by
  simp only [hcells, hlist, splice, List.length_map]
  rw [show 9 + k = (8 + k) + 1 by omega, show 8 + k + 1 + c.length = (8 + (k + c.length)) + 1 by omega]
  simp only [List.take_succ_cons, List.drop_succ_cons]
  rw [List.take_append, List.take_of_length_le (by simp [h8]), List.drop_append, List.drop_of_length_le (l := st.map wv) (by simp [h8])]
  simp only [List.length_map, h8, show 8 + k - 8 = k by omega, show 8 + (k + c.length) - 8 = k + c.length by omega]
  rw [List.take_append_of_le_length (by simp [h64]; omega), List.drop_append_of_le_length (by simp [h64]; omega)]
  simp
end

/-- What a Hash's fields mean: these bytes were taken in. -/
structure HashIs (m : List UInt8) (st : List UInt32) (rest : List UInt8) (held : Nat) : Prop where
  stl : st.length = 8
  restl : rest.length = 64
  heldE : held = m.length % 64
  stE : st = comp (m.length / 64) start8 m
  restE : rest.take held = m.drop (64 * (m.length / 64))

theorem HashIs.zero : HashIs [] start8 (List.replicate 64 0) 0 := ⟨rfl, by simp, rfl, rfl, rfl⟩
theorem splice_len {α : Type} (l : List α) (k : Nat) (c : List α) (h : k + c.length ≤ l.length) : (splice l k c).length = l.length := length_splice l k c h
theorem HashIs.lt {m : List UInt8} {st : List UInt32} {rest : List UInt8} {held : Nat} (h : HashIs m st rest held) : held < 64 := by have := h.heldE; omega
theorem HashIs.step_lt {m : List UInt8} {st : List UInt32} {rest : List UInt8} {held : Nat} (h : HashIs m st rest held) (c : List UInt8) (hc : held + c.length < 64) :
    HashIs (m ++ c) st (splice rest held c) (held + c.length) := by
  have h1 := h.heldE
  have h2 := h.restl
  have hq : (m ++ c).length / 64 = m.length / 64 := by simp; omega
  refine ⟨h.stl, by rw [splice_len _ _ _ (by omega)]; exact h2, by simp; omega, ?_, ?_⟩
  · rw [hq, h.stE, ← comp_take (m.length / 64) start8 (m ++ c), List.take_append_of_le_length (by omega), comp_take]
  · rw [hq, List.drop_append_of_le_length (by omega), ← h.restE]
    unfold splice
    rw [← List.append_assoc, List.take_append_of_le_length (by simp; omega), List.take_of_length_le (by simp; omega)]
theorem HashIs.step_eq {m : List UInt8} {st : List UInt32} {rest : List UInt8} {held : Nat} (h : HashIs m st rest held) (c : List UInt8) (hc : held + c.length = 64) :
    HashIs (m ++ c) (compress st (splice rest held c)) (splice rest held c) 0 := by
  have h1 := h.heldE
  have h2 := h.restl
  have e : splice rest held c = rest.take held ++ c := by
    unfold splice; rw [List.drop_of_length_le (by omega)]; simp
  have hq : (m ++ c).length / 64 = m.length / 64 + 1 := by simp; omega
  refine ⟨rfl, by rw [splice_len _ _ _ (by omega)]; exact h2, by simp; omega, ?_, ?_⟩
  · rw [hq, e, h.restE]
    have hm : m ++ c = m.take (64 * (m.length / 64)) ++ (m.drop (64 * (m.length / 64)) ++ c) := by rw [← List.append_assoc, List.take_append_drop]
    rw [hm, comp_append (m.length / 64) 1 _ _ _ (by simp; omega), comp_take, ← h.stE]
    show compress st _ = compress st (List.take 64 _)
    rw [List.take_of_length_le (by simp; omega)]
  · rw [hq, List.take_zero, List.drop_of_length_le (by simp; omega)]
end Go.Proofs.YtgbahfggnbpnmaaDoor
