import Derived.Test.YtgbahfggnbpnmaaLwK
/-
  A script's writes alone, done on one disk of the law's own.
-/
namespace Go.Proofs.Ytgbahfggnbpnmaa
open Go.RowKit
def WJ (w0 wr : World) (b g n : Nat) (S0 : DS) (os : List KOp) (k : Nat) : Prop :=
  ∃ v, DiskAt wr b g n v ((os.take k).foldl wrO S0) ∧ (∀ j, Foot b g v j → w0.heap.size ≤ j) ∧ ((os.take k).foldl wrO S0).Lim (201 + k) ∧ Below w0.heap.size w0 wr
section
variable {w0 wr w' : World} {b g n k : Nat} {S0 : DS} {os : List KOp}
theorem WJ.on (h : WJ w0 wr b g n S0 os k) (hb : Below wr.heap.size wr w') : WJ w0 w' b g n S0 os k := by
  obtain ⟨v, h1, h2, h3, h4⟩ := h
  exact ⟨v, h1.on hb, h2, h3, h4.trans (hb.mono h4.size)⟩
theorem WJ.bl (h : WJ w0 wr b g n S0 os k) : Below w0.heap.size w0 wr := by obtain ⟨v, h1, h2, h3, h4⟩ := h; exact h4
theorem WJ.skip (h : WJ w0 wr b g n S0 os k) (hk : k < os.length) {op : KOp} (hop : op = os.getD k kop0) (ha : op.act ≠ 1) : WJ w0 wr b g n S0 os (k + 1) := by
  obtain ⟨v, h1, h2, h3, h4⟩ := h
  have e : (os.take (k + 1)).foldl wrO S0 = (os.take k).foldl wrO S0 := by
    rw [fold_take wrO S0 k hk, ← hop]; unfold wrO; rw [if_neg ha]
  exact ⟨v, by rw [e]; exact h1, h2, by rw [e]; exact h3.mono (by omega), h4⟩
theorem WJ.write (h : WJ w0 wr b g n S0 os k) (hk : k < os.length) (h200 : os.length ≤ 200) {op : KOp} (hop : op = os.getD k kop0) (ha : op.act = 1) {c : Nat} {pb : Option Addr} (ht : Txt wr pb 256 c (blockL op.x)) :
    Calls Try.prog 15 #[.pointer (some ⟨b, 0, none⟩), .int .i64 op.i, .slice pb 256 c] wr fun e w' => ∃ r, e = .returned (.int .i64 r) ∧ WJ w0 w' b g n S0 os (k + 1) ∧ ∃ v, DiskAt wr b g n v ((os.take k).foldl wrO S0) ∧ Only (Foot b g v) wr w' := by
  obtain ⟨v, h1, h2, h3, h4⟩ := h
  refine (dwrite_at op.i pb 256 c (blockL op.x) wr h1 (by have := h3.2; omega) (by have := h3.1; omega) ht).mono ?_
  rintro e w2 ⟨rfl, v2, hD, hO, hv⟩
  have e : (os.take (k + 1)).foldl wrO S0 = (((os.take k).foldl wrO S0).write op.i (blockL op.x)).2 := by
    rw [fold_take wrO S0 k hk, ← hop]; unfold wrO; rw [if_pos ha]
  exact ⟨_, rfl, ⟨v2, by rw [e]; exact hD, foot_new h2 h4.size hv, by rw [e]; exact h3.write _ _, h4.trans (hO.below h2 h4.size)⟩, v, h1, hO⟩
end
theorem bool_info : (Try.prog.info? 4).map (fun i => (i.zero, i.size, i.bytes)) = some (some (.bool false), 1, 1) := by kernel_rfl
def blarr (k n : Nat) : Array Value := (List.replicate k (Value.bool true) ++ List.replicate (n - k) (Value.bool false)).toArray
theorem blarr_zero (n : Nat) : Array.replicate (n * 1) (Value.bool false) = blarr 0 n := by simp [blarr]
theorem blarr_step {k n : Nat} (h : k < n) : (blarr k n).setIfInBounds k (.bool true) = blarr (k + 1) n := by
  have e : n - k = (n - (k + 1)) + 1 := by omega
  unfold blarr
  rw [e, List.replicate_succ, List.setIfInBounds_toArray, List.set_append_right _ _ (by simp), List.length_replicate, Nat.sub_self, List.set_cons_zero, List.replicate_succ', List.append_assoc]
  rfl
theorem blarr_at {k n : Nat} (h : k < n) : (blarr k n)[k]? = some (.bool false) := by
  have e : n - k = (n - (k + 1)) + 1 := by omega
  unfold blarr
  rw [e, List.replicate_succ, List.getElem?_toArray, List.getElem?_append_right (by simp), List.length_replicate, Nat.sub_self]
  rfl
theorem blarr_reads {w : World} {g n : Nat} {t : TypeId} (h : Blk w g (blarr n n) t) : ReadsB w (some ⟨g, 0, none⟩) (List.replicate n true) := fun i hi => by
  rw [List.length_replicate] at hi
  refine ⟨g, 0, rfl, h.lt, h.cell (0 + i) ?_⟩
  rw [Nat.zero_add]
  simp [blarr, List.getD, hi]
end Go.Proofs.Ytgbahfggnbpnmaa
