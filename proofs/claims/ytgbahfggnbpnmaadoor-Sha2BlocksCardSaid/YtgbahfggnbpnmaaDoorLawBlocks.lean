import Derived.Test.YtgbahfggnbpnmaaDoorLive
import Derived.Test.YtgbahfggnbpnmaaDoorRefc
import Derived.Deep.RegionHeld
/-
  The walk of liverylaw02.Sha2Blocks.
-/
namespace Go.Proofs.YtgbahfggnbpnmaaDoor
open Go.RowKit

theorem yields_load {P : Program} {o : Oper} {a : Act} {w : World} (ty : TypeId) (x : Operand) (ho : o.op = .load ty x)
    (g : Nat) (hx : a.eval x = .pointer (some ⟨g, 0, none⟩)) {cur : Array Value} {t : TypeId} (hg : Blk w g cur t)
    (d : TypeDesc) (hu : P.underlying ty = some d) (hd : d.isRow = true) (hi : (P.info? ty).map (·.size) = some cur.size) : (execOp a.eval o).run P w = .ok (.value (.agg cur)) w := by
  unfold execOp
  have := run_loadVar_mid w g 0 ty cur.toList d (range_blk hg 0 cur.toList (by simp)) hu hd (by simpa using hi)
  simp [ho, hx, Instr.loadAt, Instr.sureAddr, this]

set_option maxRecDepth 100000 in
set_option maxHeartbeats 800000 in
theorem blocks_walk (s : List UInt32) (b : List UInt8) (hs : s.length = 8) (hb : b.length = 64) (w : World) (hT : Two w) :
    Calls Tryd.prog 3 #[.agg (warr s), .agg (barr b)] w fun e w' => e = .returned (.bool true) ∧ Below w.heap.size w w' := by
  have HS := Lib.hid hs
  have HB := Lib.hid hb
  have HT := Lib.hid hT
  clear hs hb hT
  go_enter Tryd.func3, Tryd.ntmps3
  go_wp2
  obtain ⟨q0, q1, qb⟩ := new2 w (warr s) (barr b) 23 24
  have qT := HT.out.below' qb
  have hsz : ((w.alloc (.cells (warr s) 23)).alloc (.cells (barr b) 24)).heap.size = w.heap.size + 1 + 1 := by simp
  generalize ((w.alloc (.cells (warr s) 23)).alloc (.cells (barr b) 24)) = w1 at *
  have SW8 : (Tryd.prog.info? 23).map (·.size) = some (warr s).size := by rw [warr_size, HS.out]; exact size_u32x8
  have SB64 : (Tryd.prog.info? 24).map (·.size) = some (barr b).size := by rw [barr_size, HB.out]; exact size_u8x64
  refine wp_region_held_drew (S := fun w' => Two w' ∧ Blk w' w.heap.size (warr s) 23 ∧ Blk w' (w.heap.size + 1) (barr b) 24 ∧ Below w.heap.size w w') (by kernel_rfl) ⟨qT.drew, q0.drew, q1.drew, qb.drew⟩ ?_
  intro hS0
  obtain ⟨C, hC⟩ : ∃ C, C = compress s b := ⟨_, rfl⟩
  have heq := eq_words 8 Tryd.underlying23 C C (by rw [hC]; exact compress_len _ _) (by rw [hC]; exact compress_len _ _)
  replace hC := Lib.hid hC
  simp only [decide_true] at heq
  refine wpAnyH_ready (rs := [0]) (by kernel_rfl) (by simp) ?_
  refine AllReadyH.cons (o := ⟨some 5, .call { callee := .value (.func 26), args := #[], argTypes := #[] }, 4, _, _, none⟩) rfl (fun K hK => ?_) AllReadyH.nil
  go_simp
  refine (live_walk _ hS0.1).mono ?_
  rintro e w2 ⟨rfl, hb2⟩
  have hS2 : Two w2 ∧ Blk w2 w.heap.size (warr s) 23 ∧ Blk w2 (w.heap.size + 1) (barr b) 24 ∧ Below w.heap.size w w2 := ⟨hS0.1.below' hb2, hS0.2.1.below hb2 hS0.2.1.lt, hS0.2.2.1.below hb2 hS0.2.2.1.lt, hS0.2.2.2.trans (hb2.mono hS0.2.2.2.size)⟩
  refine hK _ _ hS2 (fun _ => ?_)
  clear hK K hb2 hS0 q0 q1 qb qT
  refine wpAnyH_take (i := 1) (oi := ⟨some 6, .move (.tmp 5), 4, _, _, none⟩) (v := .bool true) rfl (by kernel_rfl) (by kernel_rfl) (by kernel_rfl) (fun _ _ _ h => h) (Or.inl ⟨by rfl, fun _ _ => by go_simp⟩) hS2 ?_
  simp only [Act.put, List.setIfInBounds_toArray, List.set_cons_succ, List.set_cons_zero]
  refine wpAnyH_take (i := 2) (oi := ⟨some 7, .load 23 (.tmp 2), 23, _, _, some (1, true)⟩) (v := .agg (warr s)) rfl (by kernel_rfl) (by kernel_rfl) (by kernel_rfl) (fun _ _ _ h => h) (Or.inl ⟨by rfl, fun W h => yields_load 23 (.tmp 2) rfl w.heap.size rfl h.2.1 _ Tryd.underlying23 rfl SW8⟩) hS2 ?_
  refine wpAnyH_take (i := 3) (oi := ⟨some 8, .load 24 (.tmp 3), 24, _, _, some (1, true)⟩) (v := .agg (barr b)) rfl (by kernel_rfl) (by kernel_rfl) (by kernel_rfl) (fun _ _ _ h => h) (Or.inl ⟨by rfl, fun W h => yields_load 24 (.tmp 3) rfl (w.heap.size + 1) rfl h.2.2.1 _ Tryd.underlying24 rfl SB64⟩) hS2 ?_
  refine wpAnyH_take (i := 5) (oi := ⟨some 10, .load 23 (.tmp 2), 23, _, _, some (1, true)⟩) (v := .agg (warr s)) rfl (by kernel_rfl) (by kernel_rfl) (by kernel_rfl) (fun _ _ _ h => h) (Or.inl ⟨by rfl, fun W h => yields_load 23 (.tmp 2) rfl w.heap.size rfl h.2.1 _ Tryd.underlying23 rfl SW8⟩) hS2 ?_
  refine wpAnyH_take (i := 6) (oi := ⟨some 11, .load 24 (.tmp 3), 24, _, _, some (1, true)⟩) (v := .agg (barr b)) rfl (by kernel_rfl) (by kernel_rfl) (by kernel_rfl) (fun _ _ _ h => h) (Or.inl ⟨by rfl, fun W h => yields_load 24 (.tmp 3) rfl (w.heap.size + 1) rfl h.2.2.1 _ Tryd.underlying24 rfl SB64⟩) hS2 ?_
  simp only [Act.put, List.setIfInBounds_toArray, List.set_cons_succ, List.set_cons_zero]
  refine wpAnyH_ready (rs := [4]) (by kernel_rfl) (by simp) ?_
  refine AllReadyH.cons (o := ⟨some 9, .call { callee := .value (.func 27), args := #[.tmp 7, .tmp 8], argTypes := #[23, 24] }, 23, _, _, some (1, true)⟩) rfl (fun K hK => ?_) AllReadyH.nil
  ·
    have hSx := hS2
    go_simp
    refine (compress_walk s b HS.out HB.out _ hSx.1.tab).mono ?_
    rintro e w3 ⟨he, hb3⟩
    rw [← hC.out] at he
    subst he
    refine hK _ _ ⟨hSx.1.below' hb3, hSx.2.1.below hb3 hSx.2.1.lt, hSx.2.2.1.below hb3 hSx.2.2.1.lt, hSx.2.2.2.trans (hb3.mono hSx.2.2.2.size)⟩ (fun _ => ?_)
    replace hSx : Two w3 ∧ Blk w3 w.heap.size (warr s) 23 ∧ Blk w3 (w.heap.size + 1) (barr b) 24 ∧ Below w.heap.size w w3 := ⟨hSx.1.below' hb3, hSx.2.1.below hb3 hSx.2.1.lt, hSx.2.2.1.below hb3 hSx.2.2.1.lt, hSx.2.2.2.trans (hb3.mono hSx.2.2.2.size)⟩
    clear hK K hb3
    refine wpAnyH_ready (rs := [7]) (by kernel_rfl) (by simp) ?_
    refine AllReadyH.cons (o := ⟨some 12, .call { callee := .value (.func 28), args := #[.tmp 10, .tmp 11], argTypes := #[23, 24] }, 23, _, _, some (1, true)⟩) rfl (fun K hK => ?_) AllReadyH.nil
    go_simp
    refine (refcompress_walk s b HS.out HB.out _).mono ?_
    rintro e w3 ⟨he, hb3⟩
    rw [← hC.out] at he
    subst he
    refine hK _ _ ⟨hSx.1.below' hb3, hSx.2.1.below hb3 hSx.2.1.lt, hSx.2.2.1.below hb3 hSx.2.2.1.lt, hSx.2.2.2.trans (hb3.mono hSx.2.2.2.size)⟩ (fun _ => ?_)
    replace hSx : Two w3 ∧ Blk w3 w.heap.size (warr s) 23 ∧ Blk w3 (w.heap.size + 1) (barr b) 24 ∧ Below w.heap.size w w3 := ⟨hSx.1.below' hb3, hSx.2.1.below hb3 hSx.2.1.lt, hSx.2.2.1.below hb3 hSx.2.2.1.lt, hSx.2.2.2.trans (hb3.mono hSx.2.2.2.size)⟩
    clear hK K hb3
    refine wpAnyH_take (i := 8) (oi := ⟨some 13, .binOp .eql 23 (.tmp 9) (.tmp 12) 23, 4, _, _, some (1, true)⟩) (v := .bool true) rfl (by kernel_rfl) (by kernel_rfl) (by kernel_rfl) (fun _ _ _ h => h) (Or.inl ⟨by rfl, fun _ _ => by go_simp⟩) hSx ?_
    refine wpAnyH_take (i := 9) (oi := ⟨some 14, .pick (.tmp 6) (.tmp 13) (.const (.bool false)), 4, _, _, none⟩) (v := .bool true) rfl (by kernel_rfl) (by kernel_rfl) (by kernel_rfl) (fun _ _ _ h => h) (Or.inl ⟨by rfl, fun _ _ => by go_simp⟩) hSx ?_
    refine wpAnyH_take (i := 10) (oi := ⟨some 4, .assign (.tmp 14), 4, _, _, none⟩) (v := .bool true) rfl (by kernel_rfl) (by kernel_rfl) (by kernel_rfl) (fun _ _ _ h => h) (Or.inl ⟨by rfl, fun _ _ => by go_simp⟩) hSx ?_
    refine wpAnyH_done (by kernel_rfl) ?_ _
    simp only [Act.put, List.setIfInBounds_toArray, List.set_cons_succ, List.set_cons_zero]
    go_wp2
    go_ret
    exact ⟨rfl, hSx.2.2.2⟩
end Go.Proofs.YtgbahfggnbpnmaaDoor
