import Derived.Test.YtajjbffppkpjpaaSpanU
import Derived.Shelf.SlSortCmp.NoneTotal
/-
  slices.SortFunc at lower, nil or not; a stored end of the last range.
-/
namespace Go.Proofs.Ytajjbffppkpjpaa
open Go.Shelf Go.RowKit
theorem sort_own (l : List Rg) (v : Value) (lo : Nat) (w : World) (hO : OwnR w lo v l) (hl : l.length < 4611686018427387904) :
    Calls Try.prog 111 #[v, .func (.func 112) #[] #[]] w fun e w' => e = .returned (.tuple #[]) ∧ ∃ k, k.Perm l ∧ Asc k ∧ OwnR w' lo v k ∧ w.grownBy w' v.ownBlock := by
  rcases hO.2 with ⟨rfl, h0⟩ | ⟨g, cap, cur, rfl, _⟩
  · have : l = [] := List.eq_nil_of_length_eq_zero h0
    subst this
    refine (AnyF.slices_SortFunc_none sortRg none 0 _ w).mono ?_
    rintro e w' ⟨rfl, rfl⟩
    exact ⟨rfl, [], .nil, .nil, OwnR.nil _ _, grownBy_refl _ _⟩
  · refine (sort_walk l g cap lo w hO hl).mono ?_
    rintro e w' ⟨rfl, k, h1, h2, h3, h4⟩
    rw [h1.length_eq] at h3
    exact ⟨rfl, k, h1, h2, h3, h4⟩
theorem splice_one (cur : Array Value) (off : Nat) (v : Value) (h : off < cur.size) : (cur.toList.take off ++ [v] ++ cur.toList.drop (off + 1)).toArray = cur.setIfInBounds off v := by
  apply Array.ext'
  simp only [Array.toList_setIfInBounds]
  rw [List.set_eq_take_append_cons_drop, if_pos (by simpa using h)]
  simp
theorem info_u64 : (Try.prog.info? 23).map (fun i => (i.zero, i.size, i.bytes)) = some (some (.int .u64 0), 1, 8) := by kernel_rfl
theorem rcs_set_last (L : List Rg) (x : Rg) (z : Nat) : (rcs (L ++ [x])).set (L.length * 2 + 1) (.int .u64 (z : Nat)) = rcs (L ++ [⟨x.lo, z⟩]) := by
  rw [rcs_append, rcs_append, List.set_append_right _ _ (by rw [rcs_len]; omega), rcs_len]
  simp [rcs, rcl]
theorem OwnR.set_last {w : World} {lo g n c : Nat} {L : List Rg} {x : Rg} (h : OwnR w lo (.slice (some ⟨g, 0, none⟩) n c) (L ++ [x])) (z : Nat) :
    ∃ W, (storeCells ⟨g, L.length * 2 + 1, none⟩ [.int .u64 (z : Nat)] 0).run Try.prog w = .ok () W ∧ OwnR W lo (.slice (some ⟨g, 0, none⟩) n c) (L ++ [⟨x.lo, z⟩]) ∧ w.grownBy W (some g) := by
  rcases h.2 with ⟨e, _⟩ | ⟨g', cap, cur, e, h2, h3, h4, h5, h6, h7⟩
  · cases e
  · simp only [Value.slice.injEq, Option.some.injEq, Addr.mk.injEq] at e
    obtain ⟨⟨rfl, _⟩, rfl, rfl⟩ := e
    have hlen : (L ++ [x]).length = L.length + 1 := by simp
    rw [hlen] at h4 h7
    have hB : Blk w g cur 25 := h3
    have hfit : L.length * 2 + 1 < cur.size := by omega
    have := run_storeCells_at (P := Try.prog) g (L.length * 2 + 1) 25 [.int .u64 (z : Nat)] 0 cur w hB (by simp; omega) (by simp [Value.oneCell'])
    refine ⟨_, this, ?_, grownBy_setRow (grownBy_refl _ _) _⟩
    simp only [Nat.add_zero, List.length_singleton]
    rw [splice_one cur _ _ hfit]
    refine ⟨by rw [rcs_len], .inr ⟨g, c, cur.setIfInBounds (L.length * 2 + 1) (.int .u64 (z : Nat)), by simp, h2, hB.setRow _, by simpa using h4, h5, by simpa using h6, ?_⟩⟩
    rw [show (L ++ [(⟨x.lo, z⟩ : Rg)]).length = L.length + 1 by simp, Array.toList_setIfInBounds, List.take_set, h7, rcs_set_last]
theorem wp_store_hi {o : Oper} {a : Act} {w : World} {Q : Exit → Act → World → Prop} {K : Act → World → Prop} (x y : Operand) (ho : o.op = .store 23 x y) (lo g n c : Nat) (L : List Rg) (q : Rg) (z : Nat)
    (hx : a.eval x = .pointer (some ⟨g, L.length * 2 + 1, none⟩)) (hy : a.eval y = .int .u64 (z : Nat)) (hO : OwnR w lo (.slice (some ⟨g, 0, none⟩) n c) (L ++ [q]))
    (h : ∀ W, OwnR W lo (.slice (some ⟨g, 0, none⟩) n c) (L ++ [⟨q.lo, z⟩]) → w.grownBy W (some g) → K (a.put o.dst undef) W) : o.wp Try.prog a w K Q := by
  obtain ⟨W, h1, h2, h3⟩ := hO.set_last z
  obtain ⟨i, i1, i2, i3, i4⟩ := info_parts info_u64
  have hs : (storeVar 23 ⟨g, L.length * 2 + 1, none⟩ (.int .u64 (z : Nat))).run Try.prog w = .ok () W := by
    simp [storeVar, sizeOf, typeInfo, i1, Value.cells, i3, h1]
  unfold Oper.wp execOp
  simp only [ho, hx, hy, Instr.storeAt, Instr.sureAddr, Sem.run_bind, Sem.run_pure, Result.andThen_ok, hs]
  exact h _ h2 h3
theorem RgR.one {w : World} {g : Nat} {t : TypeId} {r : Rg} (h : Blk w g #[.int .u64 (r.lo : Nat), .int .u64 (r.hi : Nat)] t) : RgR w (some ⟨g, 0, none⟩) [r] := fun i hi => by
  obtain rfl : i = 0 := by simpa using hi
  exact ⟨g, 0, rfl, h.lt, range_blk h 0 _ (fun j hj => by simp [rcl])⟩
theorem OwnR.setc {w : World} {lo g n c : Nat} {L : List Rg} {x : Rg} (h : OwnR w lo (.slice (some ⟨g, 0, none⟩) n c) (L ++ [x])) (k : Nat) (hk : k = L.length) (z : Nat) :
    OwnR (w.setCell ⟨g, k * 2 + 1, none⟩ (.int .u64 (z : Nat))) lo (.slice (some ⟨g, 0, none⟩) n c) (L ++ [⟨x.lo, z⟩]) := by
  subst hk
  rcases h.2 with ⟨e, _⟩ | ⟨g', cap, cur, e, h2, h3, h4, h5, h6, h7⟩
  · cases e
  · simp only [Value.slice.injEq, Option.some.injEq, Addr.mk.injEq] at e
    obtain ⟨⟨rfl, _⟩, rfl, rfl⟩ := e
    have hlen : (L ++ [x]).length = L.length + 1 := by simp
    rw [hlen] at h4 h7
    have hB : Blk w g cur 25 := h3
    refine ⟨by rw [rcs_len], .inr ⟨g, c, cur.setIfInBounds (L.length * 2 + 1) (.int .u64 (z : Nat)), by simp, h2, hB.set _ _, by simpa using h4, h5, by simpa using h6, ?_⟩⟩
    rw [show (L ++ [(⟨x.lo, z⟩ : Rg)]).length = L.length + 1 by simp, Array.toList_setIfInBounds, List.take_set, h7, rcs_set_last]
theorem OwnR.blk_at {w : World} {lo n c g o : Nat} {l : List Rg} (h : OwnR w lo (.slice (some ⟨g, o, none⟩) n c) l) : o = 0 ∧ lo ≤ g ∧ g < w.heap.size ∧ (∀ i, w.frozen? ⟨g, i, none⟩ = false) := by
  rcases h.2 with ⟨e, _⟩ | ⟨g', cap, cur, e, h2, h3, _⟩
  · cases e
  · simp only [Value.slice.injEq, Option.some.injEq, Addr.mk.injEq] at e
    obtain ⟨⟨rfl, rfl, _⟩, rfl, rfl⟩ := e
    have hB : Blk w g cur 25 := h3
    exact ⟨rfl, h2, hB.lt, fun i => hB.free i⟩
end Go.Proofs.Ytajjbffppkpjpaa
