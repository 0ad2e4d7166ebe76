import Derived.Test.YtgbahfggnbpnmaaDoorPieces
/-
  A Drbg's 66 cells; its state as plain Lean; may, none, Count, Left.
-/
namespace Go.Proofs.YtgbahfggnbpnmaaDoor
open Go.RowKit
def dlist (k v : List UInt8) (cnt : Int) : List Value := Value.bool true :: (k.map bv ++ (v.map bv ++ [.int .i64 cnt]))
def dcells (k v : List UInt8) (cnt : Int) : Array Value := (dlist k v cnt).toArray
section
variable {k v : List UInt8} {cnt : Int} (hk : k.length = 32) (hv : v.length = 32)
include hk hv
theorem dcells_size : (dcells k v cnt).size = 66 := by simp [dcells, dlist, hk, hv]
omit hk hv in
theorem dcells_made : (dcells k v cnt)[0]? = some (.bool true) := by simp [dcells, dlist]
omit hv in
theorem dcells_k (i : Nat) (hi : i < 32) : (dcells k v cnt)[1 + i]? = (k.map bv)[i]? := by
  simp only [dcells, dlist, List.getElem?_toArray, Nat.add_comm 1 i, List.getElem?_cons_succ]
  rw [List.getElem?_append_left (by simp [hk]; exact hi)]
theorem dcells_v (i : Nat) (hi : i < 32) : (dcells k v cnt)[33 + i]? = (v.map bv)[i]? := by
  simp only [dcells, dlist, List.getElem?_toArray, show 33 + i = (32 + i) + 1 by omega, List.getElem?_cons_succ]
  rw [List.getElem?_append_right (by simp [hk]), List.getElem?_append_left (by simp [hk, hv]; omega)]
  simp [hk]
theorem dcells_cnt : (dcells k v cnt)[65]? = some (.int .i64 cnt) := by
  simp only [dcells, dlist, List.getElem?_toArray, List.getElem?_cons_succ]
  rw [List.getElem?_append_right (by simp [hk]), List.getElem?_append_right (by simp [hk, hv])]
  simp [hk, hv]
theorem dcells_set_cnt (x : Int) : (dcells k v cnt).setIfInBounds 65 (.int .i64 x) = dcells k v x := by
  simp only [dcells, dlist, List.setIfInBounds_toArray, List.set_cons_succ]
  rw [List.set_append_right _ _ (by simp [hk]), List.set_append_right _ _ (by simp [hk, hv])]
  simp [hk, hv]
omit hv in
theorem dcells_splice_k (k' : List UInt8) (h' : k'.length = 32) : (splice (dcells k v cnt).toList 1 (barr k').toList).toArray = dcells k' v cnt := by
  simp only [dcells, dlist, splice, barr, List.length_map, h', List.take_succ_cons, List.take_zero, List.cons_append, List.nil_append, List.drop_succ_cons]
  congr 2
  rw [List.drop_append, List.drop_of_length_le (by simp [hk])]
  simp [hk]
theorem dcells_splice_v (v' : List UInt8) (h' : v'.length = 32) : (splice (dcells k v cnt).toList 33 (barr v').toList).toArray = dcells k v' cnt := by
  simp only [dcells, dlist, splice, barr, List.length_map, h', List.take_succ_cons, List.cons_append, List.drop_succ_cons]
  congr 2
  rw [List.take_append_of_le_length (by simp [hk]), List.take_of_length_le (by simp [hk]), List.drop_append, List.drop_of_length_le (by simp [hk])]
  simp [hk, hv]
end
/-- A state in memory. -/
structure DAt (w : World) (G : Nat) (k v : List UInt8) (cnt : Int) : Prop where
  kl : k.length = 32
  vl : v.length = 32
  blk : Blk w G (dcells k v cnt) 155
theorem DAt.on {w w' : World} {G : Nat} {k v : List UInt8} {cnt : Int} (h : DAt w G k v cnt) (hb : Below w.heap.size w w') : DAt w' G k v cnt := ⟨h.kl, h.vl, h.blk.on hb⟩
theorem DAt.txtK {w : World} {G : Nat} {k v : List UInt8} {cnt : Int} (h : DAt w G k v cnt) : Txt w (some ⟨G, 1, none⟩) 32 32 k :=
  ⟨h.kl.symm, Nat.le_refl _, fun i hi => ⟨G, 1, rfl, by rw [List.getElem?_eq_getElem hi]; exact h.blk.cell (1 + i) ((dcells_k h.kl i (by simpa [h.kl] using hi)).trans (List.getElem?_eq_getElem hi))⟩, fun b o e _ => by simp only [Option.some.injEq, Addr.mk.injEq] at e; obtain ⟨rfl, _⟩ := e; exact h.blk.lt⟩
theorem DAt.txtV {w : World} {G : Nat} {k v : List UInt8} {cnt : Int} (h : DAt w G k v cnt) : Txt w (some ⟨G, 33, none⟩) 32 32 v :=
  ⟨h.vl.symm, Nat.le_refl _, fun i hi => ⟨G, 33, rfl, by rw [List.getElem?_eq_getElem hi]; exact h.blk.cell (33 + i) ((dcells_v h.kl h.vl i (by simpa [h.vl] using hi)).trans (List.getElem?_eq_getElem hi))⟩, fun b o e _ => by simp only [Option.some.injEq, Addr.mk.injEq] at e; obtain ⟨rfl, _⟩ := e; exact h.blk.lt⟩
/-! The state as plain Lean. -/
def stepK (k v : List UInt8) (i : UInt8) (t : List UInt8) : List UInt8 := macL k (v ++ ([i] ++ t))
def updK (k v t : List UInt8) : List UInt8 := if t = [] then stepK k v 0 t else stepK (stepK k v 0 t) (macL (stepK k v 0 t) v) 1 t
def updV (k v t : List UInt8) : List UInt8 := if t = [] then macL (stepK k v 0 t) v else macL (updK k v t) (macL (stepK k v 0 t) v)
theorem stepK_len (k v : List UInt8) (i : UInt8) (t : List UInt8) : (stepK k v i t).length = 32 := macL_len _ _
theorem updK_len (k v t : List UInt8) : (updK k v t).length = 32 := by unfold updK; split <;> exact stepK_len _ _ _ _
theorem updV_len (k v t : List UInt8) : (updV k v t).length = 32 := by unfold updV; split <;> exact macL_len _ _
set_option maxRecDepth 100000 in
theorem dnone_nil (w : World) : Calls Tryd.prog 115 #[.pointer none] w fun e w' => e = .returned (.bool true) ∧ w = w' := by
  go_enter Tryd.func115, Tryd.ntmps115
  go_wp2
  go_ret
  exact ⟨rfl, rfl⟩
set_option maxRecDepth 100000 in
theorem dnone_at {w : World} {G : Nat} {k v : List UInt8} {cnt : Int} (h : DAt w G k v cnt) : Calls Tryd.prog 115 #[.pointer (some ⟨G, 0, none⟩)] w fun e w' => e = .returned (.bool false) ∧ w = w' := by
  have h0 := h.blk.cell 0 dcells_made
  clear h
  go_enter Tryd.func115, Tryd.ntmps115
  go_wp2
  go_ret
  exact ⟨rfl, rfl⟩
set_option maxRecDepth 100000 in
theorem count_at {w : World} {G : Nat} {k v : List UInt8} {cnt : Int} (h : DAt w G k v cnt) : Calls Tryd.prog 62 #[.pointer (some ⟨G, 0, none⟩)] w fun e w' => e = .returned (.int .i64 cnt) ∧ w = w' := by
  have h0 := h.blk.cell 65 (dcells_cnt h.kl h.vl)
  have H := Lib.hid h
  clear h
  go_enter Tryd.func62, Tryd.ntmps62
  go_wp2_with (go_at_call 115; refine (dnone_at H.out).mono ?_; rintro e w' ⟨rfl, rfl⟩)
  go_ret
  exact ⟨rfl, rfl⟩
set_option maxRecDepth 100000 in
theorem left_at {w : World} {G : Nat} {k v : List UInt8} {cnt : Int} (h : DAt w G k v cnt) (h1 : 0 ≤ cnt) (h2 : cnt ≤ 100000) : Calls Tryd.prog 64 #[.pointer (some ⟨G, 0, none⟩)] w fun e w' => e = .returned (.int .i64 (1025 - cnt)) ∧ w = w' := by
  have h0 := h.blk.cell 65 (dcells_cnt h.kl h.vl)
  have H := Lib.hid h
  have f1 : IntKind.i64.wrap (1025 - cnt) = 1025 - cnt := IntWalk.i64_in _ (by omega)
  clear h
  go_enter Tryd.func64, Tryd.ntmps64
  go_wp2_with (go_at_call 115; refine (dnone_at H.out).mono ?_; rintro e w' ⟨rfl, rfl⟩)
  go_ret
  exact ⟨rfl, rfl⟩
end Go.Proofs.YtgbahfggnbpnmaaDoor
