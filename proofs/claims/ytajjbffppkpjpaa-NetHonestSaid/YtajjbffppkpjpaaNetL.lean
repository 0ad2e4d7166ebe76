import Derived.Test.YtajjbffppkpjpaaNetK
import Derived.Test.YtajjbffppkpjpaaApp
/-
  slices.Clone of a row of letters; net.Clone.
-/
namespace Go.Proofs.Ytajjbffppkpjpaa
set_option linter.unusedSimpArgs false
set_option linter.unusedVariables false
open Go.RowKit
theorem eqs_nil (w : World) (a : Option Addr) (n c : Nat) : (binOp .eql 41 (.slice a n c) (.slice none 0 0)).run Try.prog w = .ok (.bool a.isNone) w := by
  have h := run_equal_slice_nil (P := Try.prog) (w := w) 41 47 a n c Try.underlying41
  simp [binOp, h]
/-- A row's cells as a source. -/
theorem SRow.src {w : World} {av : Nat → Prop} {a : Option Addr} {n c : Nat} {L : List Snt} (h : SRow w av (.slice a n c) L) : n = L.length ∧ ∃ ls, SnL w av ls L ∧ Src w a (ncells ls) ∧ ∀ u ∈ ncells ls, u.oneCell' = true := by
  obtain ⟨ls, h1, h2⟩ := h
  have hl := h2.len
  rcases h1.2 with ⟨e, h0⟩ | ⟨g, cap, cur, e, _, hc, hn, hm, hsz, htk⟩
  · cases e
    have : ls = [] := List.length_eq_zero_iff.1 (by omega)
    subst this
    exact ⟨h0.symm, [], h2, Src.nil _ _, fun u hu => by cases hu⟩
  · cases e
    refine ⟨rfl, ls, h2, fun j u hj => ⟨⟨g, 0, none⟩, rfl, ?_⟩, ncells_one h2⟩
    rw [Addr.add_mid]
    have hbk : Blk w g cur 47 := hc
    refine hbk.cell (0 + j) ?_
    have hj2 : j < (ncells ls).length := (List.getElem?_eq_some_iff.1 hj).1
    rw [ncells_len] at hj2
    rw [← htk, List.getElem?_take_of_lt (by omega)] at hj
    rw [Nat.zero_add, ← hj, Array.getElem?_toList]
theorem below_of_grownBy' {w w4 : World} {t : TypeId} {cs : Array Value} {n m : Nat} (hb : Below w.heap.size w (w.alloc (.cells cs t))) (hg : (w.alloc (.cells cs t)).grownBy w4 (Value.slice (some ⟨w.heap.size, 0, none⟩) n m).ownBlock) : Below w.heap.size w w4 :=
  hb.trans ⟨hg.os, hg.tape, hg.output, hg.size, fun i hi => hg.block i (Nat.lt_of_lt_of_le hi hb.size) (fun e => by simp [Value.ownBlock] at e; omega)⟩
set_option maxRecDepth 100000 in
set_option maxHeartbeats 1000000 in
theorem sclone_walk {av : Nat → Prop} {L : List Snt} (v : Value) (w : World) (h : SRow w av v L) (hL : L.length ≤ 1000000) :
    Calls Try.prog 95 #[v] w fun e w' => ∃ x, e = .returned x ∧ SRow w' av x L ∧ (∀ k, x.ownBlock = some k → w.heap.size ≤ k) ∧ Below w.heap.size w w' := by
  obtain ⟨a, c, rfl, _⟩ := h.form
  obtain ⟨_, ls, h2, hs, h1⟩ := h.src
  obtain ⟨n, hn⟩ : ∃ n, n = L.length := ⟨_, rfl⟩
  rw [← hn] at hL ⊢
  have HN := Lib.hid hn
  have hq := eqs_nil w a n c
  cases a with
  | none =>
    have HE := Lib.hid (show L = [] by
      obtain ⟨ls', q1, q2⟩ := h
      have hl := q2.len
      rcases q1.2 with ⟨_, h0⟩ | ⟨g, cap, cur, e, _⟩
      · exact List.length_eq_zero_iff.1 h0
      · cases e)
    clear h hs h1 h2 hn hL
    go_enter Try.func95, Try.ntmps95
    go_wp2
    go_ret
    exact ⟨_, rfl, by rw [HE.out]; exact SRow.nil _ _, (fun k e => by cases e), Below.refl _ _⟩
  | some a =>
    have hb := below_one' w (.cells #[] 47)
    have HB := Lib.hid hb
    have HRE := Lib.hid (row_empty w 47 3)
    have HS := Lib.hid (show Src (w.alloc (.cells #[] 47)) (some a) (ncells ls) from fun j u hj => by
      obtain ⟨ad, e, hc⟩ := hs j u hj
      exact ⟨ad, e, (hb.cell (block_lt_of_cell hc)).trans hc⟩)
    have H1 := Lib.hid h1
    have H2 := Lib.hid h2
    have HLL := Lib.hid (show (ncells ls).length = n * 3 by rw [ncells_len, h2.len, hn])
    have H63 := Lib.hid (show 0 + n ≤ maxLen by unfold maxLen; omega)
    have HBY := Lib.hid (show (0 + n) * 40 ≤ 140737488355328 by omega)
    clear hb h hs h1 h2 hn hL
    go_enter Try.func95, Try.ntmps95
    go_wp2_with (refine wpList_append_src rfl (.tmp 5) (.tmp 6) 41 47 rfl (.agg #[.int .i64 0, .int .i64 0, .slice none 0 0]) 3 40 Try.underlying41 info_sent (by rfl) (by decide) _ 0 [] (by rfl) HRE.out (some a) n c (ncells ls) (by rfl) HLL.out HS.out H1.out H63.out HBY.out ?_; intro a4 c4 w4 hO4 hg4 hat; have HO4 := Lib.hid hO4; have HG4 := Lib.hid hg4; have HA4 := Lib.hid hat; clear hO4 hg4 hat)
    go_ret
    have hba : Below w.heap.size w w4 := below_of_grownBy' HB.out HG4.out
    refine ⟨.slice a4 n c4, rfl, ⟨ls, ?_, H2.out.keep (F := fun _ => False) (Only.of_below hba) (fun _ _ _ _ q => q)⟩, fun k e => ?_, hba⟩
    · have := HO4.out
      rw [Nat.zero_add, List.nil_append] at this
      rw [← HN.out]
      exact this
    · rcases HA4.out k (by rw [Nat.zero_add]; exact e) with q | q
      · simp [Value.ownBlock] at q; omega
      · rw [q]; exact HB.out.size
structure CLim (S : NS) : Prop where
  way : S.way.length ≤ 1000000
  ever : S.ever.length ≤ 1000000
  came : S.came.length ≤ 1000000
set_option maxRecDepth 100000 in
set_option maxHeartbeats 8000000 in
theorem nclone_at {av : Nat → Prop} {b : Nat} {vx vy vz : Value} {S : NS} {K : Nat} (w : World) (h : NetAt w av b vx vy vz S) (hL : S.Lim K) (hK : K ≤ 1000000) :
    Calls Try.prog 37 #[.pointer (some ⟨b, 0, none⟩)] w fun e w' => ∃ b' x1 x2 x3, e = .returned (.pointer (some ⟨b', 0, none⟩)) ∧ NetAt w' av b' x1 x2 x3 S ∧ (∀ k, NFoot b' x1 x2 x3 k → w.heap.size ≤ k) ∧ Below w.heap.size w w' := by
  have HP := Lib.hid h
  have HS := Lib.hid h.blk
  have HL := Lib.hid (show CLim S from ⟨by have := hL.way; omega, by have := hL.ever; omega, by have := hL.came; omega⟩)
  clear h hL hK
  go_enter Try.func37, Try.ntmps37
  go_wp2_with fail
  refine (nnone_at _ HP.out).mono ?_
  rintro e w2 ⟨rfl, rfl⟩
  go_wp2
  refine wp_region_held_drew (S := fun W => Blk W b #[.bool true, vx, vy, vz] 43) (by kernel_rfl) HS.out (fun _ => ?_)
  have hb : Below w2.heap.size w2 (World.drew w2) := (Below.refl _ _).drew
  have HBB := Lib.hid hb
  have HS := Lib.hid (HS.out.on hb)
  have HP := Lib.hid (HP.out.on hb)
  clear hb
  obtain ⟨v0, hv0⟩ : ∃ v0, v0 = World.drew w2 := ⟨_, rfl⟩
  rw [← hv0] at HS HP HBB ⊢
  clear hv0
  try simp only [Act.put, List.setIfInBounds_toArray, List.set_cons_succ, List.set_cons_zero]
  refine wpAnyH_take (i := 0) (oi := ⟨some 5, .move (.tmp 0), _, _, _, none⟩) (v := .pointer (some ⟨b, 0, none⟩)) rfl (by kernel_rfl) (by kernel_rfl) (by kernel_rfl) (fun _ _ _ h => h) (Or.inl ⟨by rfl, fun _ _ => by go_simp⟩) HS.out ?_
  try simp only [Act.put, List.setIfInBounds_toArray, List.set_cons_succ, List.set_cons_zero]
  refine wpAnyH_take (i := 1) (oi := ⟨some 6, .nilCheck (.tmp 5), _, _, _, none⟩) (v := .pointer (some ⟨b, 0, none⟩)) rfl (by kernel_rfl) (by kernel_rfl) (by kernel_rfl) (fun _ _ _ h => h) (Or.inl ⟨by rfl, fun _ _ => by go_simp⟩) HS.out ?_
  try simp only [Act.put, List.setIfInBounds_toArray, List.set_cons_succ, List.set_cons_zero]
  refine wpAnyH_take (i := 2) (oi := ⟨some 7, .fieldAddr 43 (.tmp 6) 1, _, _, _, none⟩) (v := .pointer (some ⟨b, 1, none⟩)) rfl (by kernel_rfl) (by kernel_rfl) (by kernel_rfl) (fun _ _ _ h => h) (Or.inl ⟨by rfl, fun _ _ => by go_simp⟩) HS.out ?_
  try simp only [Act.put, List.setIfInBounds_toArray, List.set_cons_succ, List.set_cons_zero]
  refine wpAnyH_take (i := 3) (oi := ⟨some 8, .load 41 (.tmp 7), 41, _, _, none⟩) (v := vx) rfl (by kernel_rfl) (by kernel_rfl) (by kernel_rfl) (fun _ _ _ h => h) (Or.inl ⟨by rfl, fun vv hvv => by have c1 := hvv.cell 1 rfl; unfold execOp; go_simp⟩) HS.out ?_
  try simp only [Act.put, List.setIfInBounds_toArray, List.set_cons_succ, List.set_cons_zero]
  refine wpAnyH_take (i := 5) (oi := ⟨some 10, .move (.tmp 0), _, _, _, none⟩) (v := .pointer (some ⟨b, 0, none⟩)) rfl (by kernel_rfl) (by kernel_rfl) (by kernel_rfl) (fun _ _ _ h => h) (Or.inl ⟨by rfl, fun _ _ => by go_simp⟩) HS.out ?_
  try simp only [Act.put, List.setIfInBounds_toArray, List.set_cons_succ, List.set_cons_zero]
  refine wpAnyH_take (i := 6) (oi := ⟨some 11, .nilCheck (.tmp 10), _, _, _, none⟩) (v := .pointer (some ⟨b, 0, none⟩)) rfl (by kernel_rfl) (by kernel_rfl) (by kernel_rfl) (fun _ _ _ h => h) (Or.inl ⟨by rfl, fun _ _ => by go_simp⟩) HS.out ?_
  try simp only [Act.put, List.setIfInBounds_toArray, List.set_cons_succ, List.set_cons_zero]
  refine wpAnyH_take (i := 7) (oi := ⟨some 12, .fieldAddr 43 (.tmp 11) 2, _, _, _, none⟩) (v := .pointer (some ⟨b, 2, none⟩)) rfl (by kernel_rfl) (by kernel_rfl) (by kernel_rfl) (fun _ _ _ h => h) (Or.inl ⟨by rfl, fun _ _ => by go_simp⟩) HS.out ?_
  try simp only [Act.put, List.setIfInBounds_toArray, List.set_cons_succ, List.set_cons_zero]
  refine wpAnyH_take (i := 8) (oi := ⟨some 13, .load 41 (.tmp 12), 41, _, _, none⟩) (v := vy) rfl (by kernel_rfl) (by kernel_rfl) (by kernel_rfl) (fun _ _ _ h => h) (Or.inl ⟨by rfl, fun vv hvv => by have c1 := hvv.cell 2 rfl; unfold execOp; go_simp⟩) HS.out ?_
  try simp only [Act.put, List.setIfInBounds_toArray, List.set_cons_succ, List.set_cons_zero]
  refine wpAnyH_take (i := 10) (oi := ⟨some 15, .move (.tmp 0), _, _, _, none⟩) (v := .pointer (some ⟨b, 0, none⟩)) rfl (by kernel_rfl) (by kernel_rfl) (by kernel_rfl) (fun _ _ _ h => h) (Or.inl ⟨by rfl, fun _ _ => by go_simp⟩) HS.out ?_
  try simp only [Act.put, List.setIfInBounds_toArray, List.set_cons_succ, List.set_cons_zero]
  refine wpAnyH_take (i := 11) (oi := ⟨some 16, .nilCheck (.tmp 15), _, _, _, none⟩) (v := .pointer (some ⟨b, 0, none⟩)) rfl (by kernel_rfl) (by kernel_rfl) (by kernel_rfl) (fun _ _ _ h => h) (Or.inl ⟨by rfl, fun _ _ => by go_simp⟩) HS.out ?_
  try simp only [Act.put, List.setIfInBounds_toArray, List.set_cons_succ, List.set_cons_zero]
  refine wpAnyH_take (i := 12) (oi := ⟨some 17, .fieldAddr 43 (.tmp 16) 3, _, _, _, none⟩) (v := .pointer (some ⟨b, 3, none⟩)) rfl (by kernel_rfl) (by kernel_rfl) (by kernel_rfl) (fun _ _ _ h => h) (Or.inl ⟨by rfl, fun _ _ => by go_simp⟩) HS.out ?_
  try simp only [Act.put, List.setIfInBounds_toArray, List.set_cons_succ, List.set_cons_zero]
  refine wpAnyH_take (i := 13) (oi := ⟨some 18, .load 41 (.tmp 17), 41, _, _, none⟩) (v := vz) rfl (by kernel_rfl) (by kernel_rfl) (by kernel_rfl) (fun _ _ _ h => h) (Or.inl ⟨by rfl, fun vv hvv => by have c1 := hvv.cell 3 rfl; unfold execOp; go_simp⟩) HS.out ?_
  try simp only [Act.put, List.setIfInBounds_toArray, List.set_cons_succ, List.set_cons_zero]
  refine wpAnyH_ready (rs := [4]) (by kernel_rfl) (by simp) ?_
  refine AllReadyH.cons (o := ⟨some 9, .call { callee := .value (.func 95), args := #[.tmp 8], argTypes := #[41] }, 41, _, _, none⟩) rfl (fun K hK => ?_) AllReadyH.nil
  go_simp
  refine (sclone_walk vx v0 HP.out.way (HL.out.way)).mono ?_
  rintro e v1 ⟨x1, rfl, hR, hN, hb⟩
  obtain ⟨p1, q1, hx, _⟩ := hR.form
  subst hx
  have hsz := HBB.out.size
  have HBx1 := Lib.hid hN
  have HZx1 := Lib.hid hb.size
  have HNx1 := Lib.hid (fun k q => Nat.le_trans hsz (hN k q))
  have HTx1 := Lib.hid (fun k q => hR.lt (k := k) q)
  have HS := Lib.hid (HS.out.on hb)
  have HP := Lib.hid (HP.out.on hb)
  have HBB := Lib.hid (HBB.out.trans (hb.mono HBB.out.size))
  have HRx1 := Lib.hid (hR)
  clear hb hR hN hsz
  refine hK _ _ HS.out (fun _ => ?_)
  clear hK K
  try simp only [Act.put, List.setIfInBounds_toArray, List.set_cons_succ, List.set_cons_zero]
  refine wpAnyH_ready (rs := [9]) (by kernel_rfl) (by simp) ?_
  refine AllReadyH.cons (o := ⟨some 14, .call { callee := .value (.func 95), args := #[.tmp 13], argTypes := #[41] }, 41, _, _, none⟩) rfl (fun K hK => ?_) AllReadyH.nil
  go_simp
  refine (sclone_walk vy v1 HP.out.ever (HL.out.ever)).mono ?_
  rintro e v2 ⟨x2, rfl, hR, hN, hb⟩
  obtain ⟨p2, q2, hx, _⟩ := hR.form
  subst hx
  have hsz := HBB.out.size
  have HBx2 := Lib.hid hN
  have HZx2 := Lib.hid hb.size
  have HNx2 := Lib.hid (fun k q => Nat.le_trans hsz (hN k q))
  have HTx2 := Lib.hid (fun k q => hR.lt (k := k) q)
  have HS := Lib.hid (HS.out.on hb)
  have HP := Lib.hid (HP.out.on hb)
  have HBB := Lib.hid (HBB.out.trans (hb.mono HBB.out.size))
  have HRx1 := Lib.hid (HRx1.out.on hb)
  have HRx2 := Lib.hid (hR)
  clear hb hR hN hsz
  refine hK _ _ HS.out (fun _ => ?_)
  clear hK K
  try simp only [Act.put, List.setIfInBounds_toArray, List.set_cons_succ, List.set_cons_zero]
  refine wpAnyH_ready (rs := [14]) (by kernel_rfl) (by simp) ?_
  refine AllReadyH.cons (o := ⟨some 19, .call { callee := .value (.func 95), args := #[.tmp 18], argTypes := #[41] }, 41, _, _, none⟩) rfl (fun K hK => ?_) AllReadyH.nil
  go_simp
  refine (sclone_walk vz v2 HP.out.came (HL.out.came)).mono ?_
  rintro e v3 ⟨x3, rfl, hR, hN, hb⟩
  obtain ⟨p3, q3, hx, _⟩ := hR.form
  subst hx
  have hsz := HBB.out.size
  have HBx3 := Lib.hid hN
  have HZx3 := Lib.hid hb.size
  have HNx3 := Lib.hid (fun k q => Nat.le_trans hsz (hN k q))
  have HTx3 := Lib.hid (fun k q => hR.lt (k := k) q)
  have HS := Lib.hid (HS.out.on hb)
  have HP := Lib.hid (HP.out.on hb)
  have HBB := Lib.hid (HBB.out.trans (hb.mono HBB.out.size))
  have HRx1 := Lib.hid (HRx1.out.on hb)
  have HRx2 := Lib.hid (HRx2.out.on hb)
  have HRx3 := Lib.hid (hR)
  clear hb hR hN hsz
  refine hK _ _ HS.out (fun _ => ?_)
  clear hK K
  try simp only [Act.put, List.setIfInBounds_toArray, List.set_cons_succ, List.set_cons_zero]
  refine wpAnyH_take (i := 15) (oi := ⟨some 20, .build 43 #[(0, .const (.bool true)), (1, .tmp 9), (2, .tmp 14), (3, .tmp 19)], _, _, _, none⟩) (v := .agg #[.bool true, .slice p1 S.way.length q1, .slice p2 S.ever.length q2, .slice p3 S.came.length q3]) rfl (by kernel_rfl) (by kernel_rfl) (by kernel_rfl) (fun _ _ _ h => h) (Or.inl ⟨by rfl, fun _ _ => by go_simp⟩) HS.out ?_
  try simp only [Act.put, List.setIfInBounds_toArray, List.set_cons_succ, List.set_cons_zero]
  refine wpAnyH_ready (rs := [16]) (by kernel_rfl) (by simp) ?_
  refine AllReadyH.cons (o := ⟨some 21, .box 43 (.tmp 20), _, _, _, none⟩) rfl (fun K hK => ?_) AllReadyH.nil
  go_simp
  have BJ := Blk.new v3 #[.bool true, .slice p1 S.way.length q1, .slice p2 S.ever.length q2, .slice p3 S.came.length q3] 43
  have hb := below_one' v3 (.cells #[.bool true, .slice p1 S.way.length q1, .slice p2 S.ever.length q2, .slice p3 S.came.length q3] 43)
  have HVB := Lib.hid HBB.out.size
  generalize World.alloc v3 _ = v4 at *
  have HS := Lib.hid (HS.out.on hb)
  have HP := Lib.hid (HP.out.on hb)
  have HBB := Lib.hid (HBB.out.trans (hb.mono HBB.out.size))
  have HRx1 := Lib.hid (HRx1.out.on hb)
  have HRx2 := Lib.hid (HRx2.out.on hb)
  have HRx3 := Lib.hid (HRx3.out.on hb)
  replace BJ := Lib.hid BJ
  clear hb
  refine hK _ _ HS.out (fun _ => ?_)
  clear hK K
  try simp only [Act.put, List.setIfInBounds_toArray, List.set_cons_succ, List.set_cons_zero]
  refine wpAnyH_take (i := 17) (oi := ⟨some 2, .assign (.tmp 21), _, _, _, none⟩) (v := .pointer (some ⟨v3.heap.size, 0, none⟩)) rfl (by kernel_rfl) (by kernel_rfl) (by kernel_rfl) (fun _ _ _ h => h) (Or.inl ⟨by rfl, fun _ _ => by go_simp⟩) HS.out ?_
  try simp only [Act.put, List.setIfInBounds_toArray, List.set_cons_succ, List.set_cons_zero]
  refine wpAnyH_done (by kernel_rfl) ?_ _
  go_wp2
  go_ret
  refine ⟨v3.heap.size, .slice p1 S.way.length q1, .slice p2 S.ever.length q2, .slice p3 S.came.length q3, rfl, ⟨BJ.out, HRx1.out, HRx2.out, HRx3.out, fun k e q => ?_, fun k e q => ?_, fun k e q => ?_⟩, fun k q => ?_, HBB.out⟩
  · have h1 := HTx1.out k e; have h2 := HBx2.out k q; omega
  · have h1 := HTx1.out k e; have h2 := HBx3.out k q; have h3 := HZx2.out; omega
  · have h1 := HTx2.out k e; have h2 := HBx3.out k q; omega
  · rcases q with rfl | e | e | e
    · exact HVB.out
    · exact HNx1.out k e
    · exact HNx2.out k e
    · exact HNx3.out k e
end Go.Proofs.Ytajjbffppkpjpaa
