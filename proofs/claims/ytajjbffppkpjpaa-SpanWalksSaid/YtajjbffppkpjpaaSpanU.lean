import Derived.Test.YtajjbffppkpjpaaSpanT
/-
  slices.SortFunc at ranges of the call's own.
-/
namespace Go.Proofs.Ytajjbffppkpjpaa
open Go.Shelf Go.RowKit Go.Lib Go.Sort Go.Proofs
theorem rcl_get (r : Rg) (c : Nat) (h : c < 2) : (rcl r)[c]? = some ((rcl r)[c]!) := by
  have : c < (rcl r).length := by simpa [rcl] using h
  simp [this]
theorem flat_rcs (l : List Rg) : flatK rcl 2 l.toArray = (rcs l).toArray := by
  apply Array.ext
  · simp [rcs_len]
  · intro t h1 h2
    have ht : t < l.length * 2 := by simpa using h1
    have e := rcs_get l (t / 2) (by omega) (t % 2) (by omega)
    rw [show t / 2 * 2 + t % 2 = t by omega] at e
    have h3 : t < (rcs l).length := by rw [rcs_len]; exact ht
    rw [List.getElem?_eq_getElem h3, rcl_get _ _ (by omega)] at e
    simp only [Option.some.injEq] at e
    have h4 : t / 2 < l.length := by omega
    simp only [flatK, Array.getElem_map, Array.getElem_range, List.getElem_toArray]
    rw [e]
    simp [List.getD, h4, r0]
theorem holds_own {w : World} {g : Nat} {l : List Rg} {cur : Array Value} (hB : Blk w g cur 25) (ht : cur.toList.take (l.length * 2) = rcs l) : HoldsK rcl 2 w g 0 l.toArray := by
  unfold HoldsK
  rw [flat_rcs]
  intro j hj
  have hj' : j < (rcs l).length := by simpa using hj
  refine ⟨?_, hB.free (0 + j)⟩
  refine hB.cell (0 + j) ?_
  rw [Nat.zero_add]
  have h1 : (cur.toList.take (l.length * 2))[j]? = (rcs l)[j]? := by rw [ht]
  rw [List.getElem?_take_of_lt (by rw [rcs_len] at hj'; exact hj'), Array.getElem?_toList] at h1
  rw [h1]
  simp [hj']
theorem heap_sortedR {w : World} {g n : Nat} {os : Array Obj} {cur : Array Value} {e : TypeId} {fr : Nat × Nat} (d : Array Rg) (hb : w.heap[g]? = some (.cells cur e fr)) :
    (sortWorldK rcl 2 w g 0 n d os).heap[g]? = some (.cells (putCells id 0 (flatK rcl 2 d) cur) e fr) := by
  have hg : g < w.heap.size := (Array.getElem?_eq_some_iff.1 hb).1
  unfold sortWorldK putRowK
  rw [heap_grow_old _ _ (by simpa using hg)]
  simp [putRow, mapBlock, Sort.ahead, Array.getElem?_modify, hb, onCells]
theorem grown_sortedR {w : World} {g n : Nat} {os : Array Obj} (d : Array Rg) : w.grownBy (sortWorldK rcl 2 w g 0 n d os) (some g) := by
  unfold sortWorldK putRowK
  refine ⟨rfl, rfl, rfl, by simp, fun k hk hne => ?_⟩
  rw [heap_grow_old _ _ (by simpa using hk)]
  have : g ≠ k := fun e => hne (by rw [e])
  simp [putRow, mapBlock, Sort.ahead, Array.getElem?_modify, this]
theorem take_putR (cur : Array Value) (k : List Rg) (h : k.length * 2 ≤ cur.size) : (putCells id 0 (flatK rcl 2 k.toArray) cur).toList.take (k.length * 2) = rcs k := by
  rw [flat_rcs]
  apply List.ext_getElem?
  intro j
  by_cases hj : j < k.length * 2
  · have hj2 : j < (rcs k).length := by rw [rcs_len]; exact hj
    rw [List.getElem?_take_of_lt hj, Array.getElem?_toList]
    simp [putCells, hj2, show j < cur.size by omega]
  · rw [List.getElem?_take_eq_none (by omega), List.getElem?_eq_none (by rw [rcs_len]; omega)]
end Go.Proofs.Ytajjbffppkpjpaa
namespace Go.Proofs.Ytajjbffppkpjpaa
open Go.Shelf Go.RowKit
open Go.Sort (HoldsK)
theorem isAgg_rg (w : World) : (isAgg 25).run Try.prog w = .ok true w := by
  simp [isAgg, run_underlying Try.underlying25]
theorem sizeOf_rg (w : World) : (Go.sizeOf 25).run Try.prog w = .ok 2 w := by
  obtain ⟨i, i1, i2, i3, i4⟩ := info_parts info_rg
  simp [sizeOf, typeInfo, i1, i3]
set_option maxHeartbeats 1000000 in
theorem sort_walk (l : List Rg) (g cap lo : Nat) (w : World) (hO : OwnR w lo (.slice (some ⟨g, 0, none⟩) l.length cap) l) (hl : l.length < 4611686018427387904) :
    Calls Try.prog 111 #[.slice (some ⟨g, 0, none⟩) l.length cap, .func (.func 112) #[] #[]] w fun e w' => e = .returned (.tuple #[]) ∧ ∃ k, k.Perm l ∧ Asc k ∧ OwnR w' lo (.slice (some ⟨g, 0, none⟩) k.length cap) k ∧ w.grownBy w' (some g) := by
  obtain ⟨h1, h2⟩ := hO
  rcases h2 with ⟨e, _⟩ | ⟨g', cap', cur, e, hlo, hB, hn, hcap, hsz, ht⟩
  · cases e
  simp only [Value.slice.injEq, Option.some.injEq, Addr.mk.injEq, and_true] at e
  obtain ⟨rfl, _, rfl⟩ := e
  have hH : HoldsK rcl 2 w g 0 l.toArray := holds_own hB ht
  have eg : ∀ args w, (callFunc 112 args).run Try.prog w = .ok (.enter 112 args) w := enters_of Try.func112 (by kernel_rfl) rfl
  have hcon := AnyQ.slices_SortFunc sortRg 2 isAgg_rg sizeOf_rg rcl (fun _ => rfl) (fun x v hv => by simp [rcl] at hv; rcases hv with rfl | rfl <;> rfl) lowC lowC_swo 112 #[] g 0 cap l.toArray w eg (lower_lays g 0 l.toArray.size w) hH (Array.getElem?_eq_some_iff.1 hB).1 (by simpa using hl)
  refine hcon.mono ?_
  rintro e w' ⟨rfl, d', n, os, hp, hs, rfl⟩
  have hsize : d'.size = l.length := by simpa using hp.1
  refine ⟨rfl, d'.toList, ?_, ?_, ?_, grown_sortedR d'⟩
  · have h := hp.2.2
    have e1 : d'.extract 0 l.toArray.size = d' := by rw [← hp.1]; simp
    have e2 : l.toArray.extract 0 l.toArray.size = l.toArray := by simp
    rw [e1, e2] at h
    exact h
  · refine List.pairwise_iff_getElem.2 fun i j hi hj hij => ?_
    have hi' : i < d'.size := by simpa using hi
    have hj' : j < d'.size := by simpa using hj
    have h := hs i j (Nat.zero_le _) hij (by simpa [hsize] using hj')
    rw [lowC_lt, getElem!_pos d' j hj', getElem!_pos d' i hi', decide_eq_false_iff_not] at h
    simpa using Nat.le_of_not_lt h
  · have hlen : d'.toList.length = l.length := by simpa using hsize
    have ec : (sortWorldK rcl 2 w g 0 n d' os) = sortWorldK rcl 2 w g 0 n d'.toList.toArray os := by simp
    refine ⟨by rw [rcs_len], Or.inr ⟨g, cap, _, rfl, hlo, heap_sortedR d' hB, by rw [hlen]; exact hn, hcap, ?_, ?_⟩⟩
    · rw [← hsz]; simp [Sort.putCells]
    · have h := take_putR cur d'.toList (by rw [hlen]; omega)
      simpa using h
end Go.Proofs.Ytajjbffppkpjpaa
