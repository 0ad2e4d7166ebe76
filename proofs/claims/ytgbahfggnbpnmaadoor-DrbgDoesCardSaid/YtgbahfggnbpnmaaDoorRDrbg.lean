import Derived.Test.YtgbahfggnbpnmaaDoorDrbgA
/-
  The reference's generator: Updated.
-/
namespace Go.Proofs.YtgbahfggnbpnmaaDoor
open Go.RowKit
theorem size_ref5 : (Tryd.prog.info? 88).map (·.size) = some 3 := by kernel_rfl
theorem yields_sl {o : Oper} {a : Act} {w : World} (x : Operand) (ho : o.op = .load 28 x) (p : Addr) (hx : a.eval x = .pointer (some p)) {A : Option Addr} {n c : Nat} (hc : w.cell? p = some (.slice A n c)) : (execOp a.eval o).run Tryd.prog w = .ok (.value (.slice A n c)) w := by
  unfold execOp
  simp only [ho, hx]
  go_simp
theorem join_blk3 (w : World) (g : Nat) (t : TypeId) {a a2 a3 : Option Addr} {n c n2 c2 n3 c3 : Nat} {l l2 l3 : List UInt8} (hB : Blk w g #[.slice a n c, .slice a2 n2 c2, .slice a3 n3 c3] t) (h : Txt w a n c l) (h' : Txt w a2 n2 c2 l2) (h3 : Txt w a3 n3 c3 l3) (hlen : l.length + (l2.length + l3.length) ≤ 140737488355328) :
    Calls Tryd.prog 36 #[.slice (some ⟨g, 0, none⟩) 3 3] w fun e w' => ∃ a' n' c', e = .returned (.slice a' n' c') ∧ OwnB w' w.heap.size (.slice a' n' c') (l ++ (l2 ++ l3)) ∧ Below w.heap.size w w' := by
  refine (join_walk [l, l2, l3] 3 3 rfl _ w (h.parts3 h' h3 hB) (by simpa using hlen) (by simp)).mono ?_
  rintro e w' ⟨a', n', c', he, h4, h5⟩
  simp only [List.flatten_cons, List.flatten_nil, List.append_nil] at h4
  exact ⟨a', n', c', he, h4, h5⟩
theorem far_of {w : World} {lo B n c : Nat} {a : Option Addr} {l : List UInt8} (h : OwnB w lo (.slice a n c) l) (hB : B ≤ lo) : ∀ q o, a = some ⟨q, o, none⟩ → B ≤ q := fun q o e => by
  obtain ⟨a', c', e', _, _, _, h4, _⟩ := h.form
  simp only [Value.slice.injEq] at e'
  exact Nat.le_trans hB (h4 q o (e'.1.symm.trans e)).1
theorem results_str {P : Program} {fn : Func} {p : Tmp} {ty : TypeId} (h : fn.results = #[.cell p ty]) (tmps : Array Value) {w : World} {g : Nat} {t : TypeId} {cs : Array Value} {d : TypeDesc} (hg : Blk w g cs t)
    (hp : tmps.getD p undef = .pointer (some ⟨g, 0, none⟩)) (hu : P.underlying ty = some d) (hd : (match d with | .struct _ | .array _ _ => true | _ => false) = true) (hi : (P.info? ty).map (·.size) = some cs.size) :
    (results fn tmps).run P w = .ok (.agg cs) w := results_cell_row h tmps w g t cs (0, 0) _ hp hg hu hd hi
set_option maxRecDepth 100000 in
set_option maxHeartbeats 2000000 in
theorem rupd_walk (k v t : List UInt8) (ka va a : Option Addr) (kn kc vn vc n c : Nat) (cnt : Int) (w : World) (hK : Txt w ka kn kc k) (hV : Txt w va vn vc v) (hX : Txt w a n c t) (hkl : k.length = 32) (hvl : v.length = 32) (htl : t.length ≤ 100000000) :
    Calls Tryd.prog 117 #[.agg #[.slice ka kn kc, .slice va vn vc, .int .i64 cnt], .slice a n c] w fun e w' => ∃ ka' kn' kc' va' vn' vc', e = .returned (.agg #[.slice ka' kn' kc', .slice va' vn' vc', .int .i64 cnt]) ∧ Txt w' ka' kn' kc' (updK k v t) ∧ Txt w' va' vn' vc' (updV k v t) ∧ (∀ q o, ka' = some ⟨q, o, none⟩ → w.heap.size ≤ q) ∧ (∀ q o, va' = some ⟨q, o, none⟩ → w.heap.size ≤ q) ∧ Below w.heap.size w w' := by
  have HK := Lib.hid hK
  have HV := Lib.hid hV
  have HX := Lib.hid hX
  have HKL := Lib.hid hkl
  have HVL := Lib.hid hvl
  have HTL := Lib.hid htl
  have HNT := Lib.hid hX.len
  obtain ⟨KK, hKK⟩ : ∃ z, z = stepK k v 0 t := ⟨_, rfl⟩
  obtain ⟨VV, hVV⟩ : ∃ z, z = macL KK v := ⟨_, rfl⟩
  obtain ⟨K2, hK2⟩ : ∃ z, z = stepK KK VV 1 t := ⟨_, rfl⟩
  obtain ⟨V2, hV2⟩ : ∃ z, z = macL K2 VV := ⟨_, rfl⟩
  have HKK := Lib.hid hKK
  have HVV := Lib.hid hVV
  have HK2 := Lib.hid hK2
  have HV2 := Lib.hid hV2
  have HK1L := Lib.hid (show KK.length = 32 ∧ K2.length = 32 by rw [hKK, hK2]; exact ⟨stepK_len _ _ _ _, stepK_len _ _ _ _⟩)
  have HV1L := Lib.hid (show VV.length = 32 by rw [hVV]; exact macL_len _ _)
  clear hK hV hX hkl hvl htl hKK hVV hK2 hV2
  by_cases ht : t = []
  · have HTN := Lib.hid ht
    have hz : ¬ (0 : Int) < (n : Int) := by have := HNT.out; rw [ht] at this; simp at this; omega
    clear ht
    have BX0 := (Blk.new w #[.slice ka kn kc, .slice va vn vc, .int .i64 cnt] 88).alloc (.cells #[.slice none 0 0, .slice none 0 0, .int .i64 0] 88)
    have BY0 := Blk.new' (w.alloc (.cells #[.slice ka kn kc, .slice va vn vc, .int .i64 cnt] 88)) #[.slice none 0 0, .slice none 0 0, .int .i64 0] 88 (g := w.heap.size + 1) (by simp)
    have HB0 := below_two w (.cells #[.slice ka kn kc, .slice va vn vc, .int .i64 cnt] 88) (.cells #[.slice none 0 0, .slice none 0 0, .int .i64 0] 88)
    have BX := Lib.hid BX0
    have BY := Lib.hid BY0
    have HB := Lib.hid HB0
    clear BX0 BY0 HB0
    go_enter Tryd.func117, Tryd.ntmps117
    go_wp2
    generalize (w.alloc (.cells #[.slice ka kn kc, .slice va vn vc, .int .i64 cnt] 88)).alloc (.cells #[.slice none 0 0, .slice none 0 0, .int .i64 0] 88) = w2 at *
    refine wp_region_held_drew (S := fun w' => w'.cell? ⟨w.heap.size, 1, none⟩ = some (.slice va vn vc)) (by kernel_rfl) (BX.out.drew.cell 1 rfl) (fun _ => ?_)
    have hb : Below w2.heap.size w2 (World.drew w2) := (Below.refl _ _).drew
    have HB := Lib.hid (HB.out.trans (hb.mono HB.out.size))
    have BX := Lib.hid (BX.out.on hb)
    have BY := Lib.hid (BY.out.on hb)
    clear hb
    generalize World.drew w2 = v0 at *
    try simp only [Act.put, List.setIfInBounds_toArray, List.set_cons_succ, List.set_cons_zero]
    refine wpAnyH_take (i := 0) (oi := ⟨some 5, .fieldAddr 88 (.tmp 2) 0, _, _, _, none⟩) (v := .pointer (some ⟨w.heap.size, 0, none⟩)) rfl (by kernel_rfl) (by kernel_rfl) (by kernel_rfl) (fun _ _ _ h => h) (Or.inl ⟨by rfl, fun _ _ => by go_simp⟩) (Lib.hid (BX.out.cell 1 rfl)).out ?_
    try simp only [Act.put, List.setIfInBounds_toArray, List.set_cons_succ, List.set_cons_zero]
    refine wpAnyH_take (i := 2) (oi := ⟨some 7, .fieldAddr 88 (.tmp 2) 1, _, _, _, none⟩) (v := .pointer (some ⟨w.heap.size, 1, none⟩)) rfl (by kernel_rfl) (by kernel_rfl) (by kernel_rfl) (fun _ _ _ h => h) (Or.inl ⟨by rfl, fun _ _ => by go_simp⟩) (Lib.hid (BX.out.cell 1 rfl)).out ?_
    try simp only [Act.put, List.setIfInBounds_toArray, List.set_cons_succ, List.set_cons_zero]
    refine wpAnyH_take (i := 3) (oi := ⟨some 8, .load 28 (.tmp 7), 28, _, _, none⟩) (v := .slice va vn vc) rfl (by kernel_rfl) (by kernel_rfl) (by kernel_rfl) (fun _ _ _ h => h) (Or.inl ⟨by rfl, fun vv hvv => yields_sl (.tmp 7) rfl ⟨w.heap.size, 1, none⟩ rfl hvv⟩) (Lib.hid (BX.out.cell 1 rfl)).out ?_
    try simp only [Act.put, List.setIfInBounds_toArray, List.set_cons_succ, List.set_cons_zero]
    refine wpAnyH_take (i := 5) (oi := ⟨some 10, .move (.tmp 1), 28, _, _, none⟩) (v := .slice a n c) rfl (by kernel_rfl) (by kernel_rfl) (by kernel_rfl) (fun _ _ _ h => h) (Or.inl ⟨by rfl, fun _ _ => by go_simp⟩) (Lib.hid (BX.out.cell 1 rfl)).out ?_
    try simp only [Act.put, List.setIfInBounds_toArray, List.set_cons_succ, List.set_cons_zero]
    refine wpAnyH_ready (rs := [1, 4]) (by kernel_rfl) (by simp) ?_
    refine AllReadyH.cons (o := ⟨some 6, .load 28 (.tmp 5), 28, _, _, none⟩) rfl (fun K hK => ?_) (AllReadyH.cons (o := ⟨some 9, .buildSlice 28 1 #[(0, .const (.int .u8 0))], 28, _, _, none⟩) rfl (fun K hK => ?_) AllReadyH.nil)
    · rw [if_pos (by rfl)]
      refine wp_of_yields (yields_sl (.tmp 5) (by rfl) ⟨w.heap.size, 0, none⟩ (by rfl) (BX.out.cell 0 rfl)) ?_
      refine hK _ _ (Lib.hid (BX.out.cell 1 rfl)).out (fun _ => ?_)
      clear hK K
      try simp only [Act.put, List.setIfInBounds_toArray, List.set_cons_succ, List.set_cons_zero]
      refine wpAnyH_ready (rs := [4]) (by kernel_rfl) (by simp) ?_
      refine AllReadyH.cons (o := ⟨some 9, .buildSlice 28 1 #[(0, .const (.int .u8 0))], 28, _, _, none⟩) rfl (fun K hK => ?_) AllReadyH.nil
      go_simp
      have BI := Blk.new v0 #[.int .u8 0] 5
      have hb := below_one' v0 (.cells #[.int .u8 0] 5)
      generalize World.alloc v0 _ = v1 at *
      have HB := Lib.hid (HB.out.trans (hb.mono HB.out.size))
      have BX := Lib.hid (BX.out.on hb)
      have BY := Lib.hid (BY.out.on hb)
      replace BI := Lib.hid BI
      have TI := Lib.hid (by have h : Blk _ _ (barr [0]) _ := BI.out; exact Txt.of_blk h)
      clear hb
      refine hK _ _ (Lib.hid (BX.out.cell 1 rfl)).out (fun _ => ?_)
      clear hK K
      try simp only [Act.put, List.setIfInBounds_toArray, List.set_cons_succ, List.set_cons_zero]
      refine wpAnyH_ready (rs := [6]) (by kernel_rfl) (by simp) ?_
      refine AllReadyH.cons (o := ⟨some 11, .buildSlice 35 3 #[(0, .tmp 8), (1, .tmp 9), (2, .tmp 10)], 35, _, _, none⟩) rfl (fun K hK => ?_) AllReadyH.nil
      go_simp
      have BJ := Blk.new v1 #[.slice va vn vc, .slice (some ⟨v0.heap.size, 0, none⟩) 1 1, .slice a n c] 28
      have hb := below_one' v1 (.cells #[.slice va vn vc, .slice (some ⟨v0.heap.size, 0, none⟩) 1 1, .slice a n c] 28)
      generalize World.alloc v1 _ = v2 at *
      have HB := Lib.hid (HB.out.trans (hb.mono HB.out.size))
      have BX := Lib.hid (BX.out.on hb)
      have BY := Lib.hid (BY.out.on hb)
      have BI := Lib.hid (BI.out.on hb)
      have TI := Lib.hid (TI.out.on hb)
      replace BJ := Lib.hid BJ
      clear hb
      refine hK _ _ (Lib.hid (BX.out.cell 1 rfl)).out (fun _ => ?_)
      clear hK K
      try simp only [Act.put, List.setIfInBounds_toArray, List.set_cons_succ, List.set_cons_zero]
      refine wpAnyH_ready (rs := [7]) (by kernel_rfl) (by simp) ?_
      refine AllReadyH.cons (o := ⟨some 12, .call { callee := .value (.func 36), args := #[.tmp 11], argTypes := #[35] }, 28, _, _, none⟩) rfl (fun K hK => ?_) AllReadyH.nil
      go_simp
      refine (join_blk3 v2 _ _ BJ.out (HV.out.on HB.out) TI.out (HX.out.on HB.out) (by have := HTL.out; have := HVL.out; have := HV1L.out; simp only [List.length_cons, List.length_nil]; omega)).mono ?_
      rintro e v3 ⟨aj, nj, cj, rfl, hO, hb⟩
      have HB := Lib.hid (HB.out.trans (hb.mono HB.out.size))
      have BX := Lib.hid (BX.out.on hb)
      have BY := Lib.hid (BY.out.on hb)
      have BI := Lib.hid (BI.out.on hb)
      have TI := Lib.hid (TI.out.on hb)
      have BJ := Lib.hid (BJ.out.on hb)
      have TJ := Lib.hid (hO.txt)
      clear hb hO
      refine hK _ _ (Lib.hid (BX.out.cell 1 rfl)).out (fun _ => ?_)
      clear hK K
      try simp only [Act.put, List.setIfInBounds_toArray, List.set_cons_succ, List.set_cons_zero]
      refine wpAnyH_ready (rs := [8]) (by kernel_rfl) (by simp) ?_
      refine AllReadyH.cons (o := ⟨some 13, .call { callee := .value (.func 44), args := #[.tmp 6, .tmp 12], argTypes := #[28, 28] }, 28, _, _, none⟩) rfl (fun K hK => ?_) AllReadyH.nil
      go_simp
      refine (rmac_walk k _ ka _ _ _ nj cj v3 (HK.out.on HB.out) TJ.out (by have := HKL.out; have := HK1L.out; omega) (by have := HTL.out; have := HVL.out; have := HV1L.out; simp only [List.length_append, List.length_cons, List.length_nil]; omega)).mono ?_
      rintro e v4 ⟨am, cm, rfl, hO, hb⟩
      rw [show macL _ _ = KK from HKK.out.symm] at hO
      have FM := Lib.hid (far_of hO (show w.heap.size + 2 ≤ _ by have := BY.out.lt; omega))
      have HB := Lib.hid (HB.out.trans (hb.mono HB.out.size))
      have BX := Lib.hid (BX.out.on hb)
      have BY := Lib.hid (BY.out.on hb)
      have BI := Lib.hid (BI.out.on hb)
      have TI := Lib.hid (TI.out.on hb)
      have BJ := Lib.hid (BJ.out.on hb)
      have TJ := Lib.hid (TJ.out.on hb)
      have TM := Lib.hid (hO.txt)
      clear hb hO
      refine hK _ _ (Lib.hid (BX.out.cell 1 rfl)).out (fun _ => ?_)
      clear hK K
      try simp only [Act.put, List.setIfInBounds_toArray, List.set_cons_succ, List.set_cons_zero]
      refine wpAnyH_take (i := 9) (oi := ⟨some 14, .fieldAddr 88 (.tmp 2) 0, _, _, _, none⟩) (v := .pointer (some ⟨w.heap.size, 0, none⟩)) rfl (by kernel_rfl) (by kernel_rfl) (by kernel_rfl) (fun _ _ _ h => h) (Or.inl ⟨by rfl, fun _ _ => by go_simp⟩) (Lib.hid (BX.out.cell 1 rfl)).out ?_
      try simp only [Act.put, List.setIfInBounds_toArray, List.set_cons_succ, List.set_cons_zero]
      refine wpAnyH_ready (rs := [10]) (by kernel_rfl) (by simp) ?_
      refine AllReadyH.cons (o := ⟨none, .store 28 (.tmp 14) (.tmp 13), 0, _, _, none⟩) rfl (fun K hK => ?_) AllReadyH.nil
      rw [if_pos (by rfl)]
      refine wp_store_slc (.tmp 14) (.tmp 13) (by rfl) w.heap.size 0 am 32 cm (by rfl) (by rfl) BX.out (by simp) ?_
      intro vw hW p
      refine hK _ _ (p.cell 1 rfl) (fun _ => ?_)
      clear hK K
      have BX := Lib.hid (show Blk vw w.heap.size #[.slice am 32 cm, .slice va vn vc, .int .i64 cnt] 88 from p)
      have BY := Lib.hid (hW.blk BY.out (by simp))
      have HB := Lib.hid (hW.below HB.out (Nat.le_refl _))
      have TM := Lib.hid (TM.out.far' (row_of_wrote hW) (fun q o e h => by have := FM.out q o e; simp at h; omega))
      clear hW p
      refine wpAnyH_done (by kernel_rfl) ?_ _
      have b0 := BX.out.cell 0 rfl
      have b1 := BX.out.cell 1 rfl
      go_wp2_with fail
      refine (rmac_walk KK v _ _ _ _ _ _ _ TM.out (HV.out.on HB.out) (by have := HK1L.out; omega) (by have := HVL.out; have := HV1L.out; omega)).mono ?_
      rintro e u3 ⟨an, cn, rfl, hO, hb⟩
      rw [← HVV.out] at hO
      have FN := Lib.hid (far_of hO (show w.heap.size + 2 ≤ _ by have := BY.out.lt; omega))
      have TN := Lib.hid hO.txt
      have BX := Lib.hid (BX.out.on hb)
      have BY := Lib.hid (BY.out.on hb)
      have HB := Lib.hid (HB.out.trans (hb.mono HB.out.size))
      have TM := Lib.hid (TM.out.on hb)
      clear hb hO b0 b1
      go_wp2_with (first | (refine wpList_load_row rfl 88 (.tmp 2) rfl w.heap.size rfl 88 _ _ _ BX.out Tryd.underlying88 rfl size_ref5 ?_) | (refine wpList_store_abs rfl 88 (.tmp 4) (.tmp 40) (by rfl) (w.heap.size + 1) #[.slice am 32 cm, .slice an 32 cn, .int .i64 cnt] (by rfl) (by rfl) 88 _ BY.out size_ref5 (by rfl) (by simp [Value.oneCell']) ?_; intro W9 hW p9; have HB9 := Lib.hid (hW.below HB.out (Nat.le_succ _)); have TK9 := Lib.hid (TM.out.far' (row_of_wrote hW) (fun q o e h => by have := FM.out q o e; simp at h; omega)); have TV9 := Lib.hid (TN.out.far' (row_of_wrote hW) (fun q o e h => by have := FN.out q o e; simp at h; omega)); clear hW) | (refine wpList_store_slc rfl (.tmp 20) (.tmp 19) rfl w.heap.size 1 an 32 cn (by rfl) (by rfl) BX.out (by simp) ?_; intro u4 hW p; have BX := Lib.hid (show Blk u4 w.heap.size #[.slice am 32 cm, .slice an 32 cn, .int .i64 cnt] 88 from p); have BY := Lib.hid (hW.blk BY.out (by simp)); have HB := Lib.hid (hW.below HB.out (Nat.le_refl _)); have TM := Lib.hid (TM.out.far' (row_of_wrote hW) (fun q o e h => by have := FM.out q o e; simp at h; omega)); have TN := Lib.hid (TN.out.far' (row_of_wrote hW) (fun q o e h => by have := FN.out q o e; simp at h; omega)); have b0 := BX.out.cell 0 rfl; have b1 := BX.out.cell 1 rfl; clear hW p))
      refine bodyPost_ret (v := .agg #[.slice am 32 cm, .slice an 32 cn, .int .i64 cnt]) ?_ rfl ⟨_, _, _, _, _, _, rfl, ?_, ?_, (fun q o e => Nat.le_trans (by omega) (FM.out q o e)), (fun q o e => Nat.le_trans (by omega) (FN.out q o e)), HB9.out⟩
      · exact results_str rfl _ p9 rfl Tryd.underlying88 rfl size_ref5
      · have h := TK9.out
        rw [show KK = updK k v t by unfold updK; rw [if_pos HTN.out, HKK.out]] at h
        exact h
      · have h := TV9.out
        rw [show VV = updV k v t by unfold updV; rw [if_pos HTN.out, HVV.out, HKK.out]] at h
        exact h
    · go_simp
      have BI := Blk.new v0 #[.int .u8 0] 5
      have hb := below_one' v0 (.cells #[.int .u8 0] 5)
      generalize World.alloc v0 _ = v5 at *
      have HB := Lib.hid (HB.out.trans (hb.mono HB.out.size))
      have BX := Lib.hid (BX.out.on hb)
      have BY := Lib.hid (BY.out.on hb)
      replace BI := Lib.hid BI
      have TI := Lib.hid (by have h : Blk _ _ (barr [0]) _ := BI.out; exact Txt.of_blk h)
      clear hb
      refine hK _ _ (Lib.hid (BX.out.cell 1 rfl)).out (fun _ => ?_)
      clear hK K
      try simp only [Act.put, List.setIfInBounds_toArray, List.set_cons_succ, List.set_cons_zero]
      refine wpAnyH_ready (rs := [1, 6]) (by kernel_rfl) (by simp) ?_
      refine AllReadyH.cons (o := ⟨some 6, .load 28 (.tmp 5), 28, _, _, none⟩) rfl (fun K hK => ?_) (AllReadyH.cons (o := ⟨some 11, .buildSlice 35 3 #[(0, .tmp 8), (1, .tmp 9), (2, .tmp 10)], 35, _, _, none⟩) rfl (fun K hK => ?_) AllReadyH.nil)
      · rw [if_pos (by rfl)]
        refine wp_of_yields (yields_sl (.tmp 5) (by rfl) ⟨w.heap.size, 0, none⟩ (by rfl) (BX.out.cell 0 rfl)) ?_
        refine hK _ _ (Lib.hid (BX.out.cell 1 rfl)).out (fun _ => ?_)
        clear hK K
        try simp only [Act.put, List.setIfInBounds_toArray, List.set_cons_succ, List.set_cons_zero]
        refine wpAnyH_ready (rs := [6]) (by kernel_rfl) (by simp) ?_
        refine AllReadyH.cons (o := ⟨some 11, .buildSlice 35 3 #[(0, .tmp 8), (1, .tmp 9), (2, .tmp 10)], 35, _, _, none⟩) rfl (fun K hK => ?_) AllReadyH.nil
        go_simp
        have BJ := Blk.new v5 #[.slice va vn vc, .slice (some ⟨v0.heap.size, 0, none⟩) 1 1, .slice a n c] 28
        have hb := below_one' v5 (.cells #[.slice va vn vc, .slice (some ⟨v0.heap.size, 0, none⟩) 1 1, .slice a n c] 28)
        generalize World.alloc v5 _ = v6 at *
        have HB := Lib.hid (HB.out.trans (hb.mono HB.out.size))
        have BX := Lib.hid (BX.out.on hb)
        have BY := Lib.hid (BY.out.on hb)
        have BI := Lib.hid (BI.out.on hb)
        have TI := Lib.hid (TI.out.on hb)
        replace BJ := Lib.hid BJ
        clear hb
        refine hK _ _ (Lib.hid (BX.out.cell 1 rfl)).out (fun _ => ?_)
        clear hK K
        try simp only [Act.put, List.setIfInBounds_toArray, List.set_cons_succ, List.set_cons_zero]
        refine wpAnyH_ready (rs := [7]) (by kernel_rfl) (by simp) ?_
        refine AllReadyH.cons (o := ⟨some 12, .call { callee := .value (.func 36), args := #[.tmp 11], argTypes := #[35] }, 28, _, _, none⟩) rfl (fun K hK => ?_) AllReadyH.nil
        go_simp
        refine (join_blk3 v6 _ _ BJ.out (HV.out.on HB.out) TI.out (HX.out.on HB.out) (by have := HTL.out; have := HVL.out; have := HV1L.out; simp only [List.length_cons, List.length_nil]; omega)).mono ?_
        rintro e v7 ⟨aj, nj, cj, rfl, hO, hb⟩
        have HB := Lib.hid (HB.out.trans (hb.mono HB.out.size))
        have BX := Lib.hid (BX.out.on hb)
        have BY := Lib.hid (BY.out.on hb)
        have BI := Lib.hid (BI.out.on hb)
        have TI := Lib.hid (TI.out.on hb)
        have BJ := Lib.hid (BJ.out.on hb)
        have TJ := Lib.hid (hO.txt)
        clear hb hO
        refine hK _ _ (Lib.hid (BX.out.cell 1 rfl)).out (fun _ => ?_)
        clear hK K
        try simp only [Act.put, List.setIfInBounds_toArray, List.set_cons_succ, List.set_cons_zero]
        refine wpAnyH_ready (rs := [8]) (by kernel_rfl) (by simp) ?_
        refine AllReadyH.cons (o := ⟨some 13, .call { callee := .value (.func 44), args := #[.tmp 6, .tmp 12], argTypes := #[28, 28] }, 28, _, _, none⟩) rfl (fun K hK => ?_) AllReadyH.nil
        go_simp
        refine (rmac_walk k _ ka _ _ _ nj cj v7 (HK.out.on HB.out) TJ.out (by have := HKL.out; have := HK1L.out; omega) (by have := HTL.out; have := HVL.out; have := HV1L.out; simp only [List.length_append, List.length_cons, List.length_nil]; omega)).mono ?_
        rintro e v8 ⟨am, cm, rfl, hO, hb⟩
        rw [show macL _ _ = KK from HKK.out.symm] at hO
        have FM := Lib.hid (far_of hO (show w.heap.size + 2 ≤ _ by have := BY.out.lt; omega))
        have HB := Lib.hid (HB.out.trans (hb.mono HB.out.size))
        have BX := Lib.hid (BX.out.on hb)
        have BY := Lib.hid (BY.out.on hb)
        have BI := Lib.hid (BI.out.on hb)
        have TI := Lib.hid (TI.out.on hb)
        have BJ := Lib.hid (BJ.out.on hb)
        have TJ := Lib.hid (TJ.out.on hb)
        have TM := Lib.hid (hO.txt)
        clear hb hO
        refine hK _ _ (Lib.hid (BX.out.cell 1 rfl)).out (fun _ => ?_)
        clear hK K
        try simp only [Act.put, List.setIfInBounds_toArray, List.set_cons_succ, List.set_cons_zero]
        refine wpAnyH_take (i := 9) (oi := ⟨some 14, .fieldAddr 88 (.tmp 2) 0, _, _, _, none⟩) (v := .pointer (some ⟨w.heap.size, 0, none⟩)) rfl (by kernel_rfl) (by kernel_rfl) (by kernel_rfl) (fun _ _ _ h => h) (Or.inl ⟨by rfl, fun _ _ => by go_simp⟩) (Lib.hid (BX.out.cell 1 rfl)).out ?_
        try simp only [Act.put, List.setIfInBounds_toArray, List.set_cons_succ, List.set_cons_zero]
        refine wpAnyH_ready (rs := [10]) (by kernel_rfl) (by simp) ?_
        refine AllReadyH.cons (o := ⟨none, .store 28 (.tmp 14) (.tmp 13), 0, _, _, none⟩) rfl (fun K hK => ?_) AllReadyH.nil
        rw [if_pos (by rfl)]
        refine wp_store_slc (.tmp 14) (.tmp 13) (by rfl) w.heap.size 0 am 32 cm (by rfl) (by rfl) BX.out (by simp) ?_
        intro vw hW p
        refine hK _ _ (p.cell 1 rfl) (fun _ => ?_)
        clear hK K
        have BX := Lib.hid (show Blk vw w.heap.size #[.slice am 32 cm, .slice va vn vc, .int .i64 cnt] 88 from p)
        have BY := Lib.hid (hW.blk BY.out (by simp))
        have HB := Lib.hid (hW.below HB.out (Nat.le_refl _))
        have TM := Lib.hid (TM.out.far' (row_of_wrote hW) (fun q o e h => by have := FM.out q o e; simp at h; omega))
        clear hW p
        refine wpAnyH_done (by kernel_rfl) ?_ _
        have b0 := BX.out.cell 0 rfl
        have b1 := BX.out.cell 1 rfl
        go_wp2_with fail
        refine (rmac_walk KK v _ _ _ _ _ _ _ TM.out (HV.out.on HB.out) (by have := HK1L.out; omega) (by have := HVL.out; have := HV1L.out; omega)).mono ?_
        rintro e u3 ⟨an, cn, rfl, hO, hb⟩
        rw [← HVV.out] at hO
        have FN := Lib.hid (far_of hO (show w.heap.size + 2 ≤ _ by have := BY.out.lt; omega))
        have TN := Lib.hid hO.txt
        have BX := Lib.hid (BX.out.on hb)
        have BY := Lib.hid (BY.out.on hb)
        have HB := Lib.hid (HB.out.trans (hb.mono HB.out.size))
        have TM := Lib.hid (TM.out.on hb)
        clear hb hO b0 b1
        go_wp2_with (first | (refine wpList_load_row rfl 88 (.tmp 2) rfl w.heap.size rfl 88 _ _ _ BX.out Tryd.underlying88 rfl size_ref5 ?_) | (refine wpList_store_abs rfl 88 (.tmp 4) (.tmp 40) (by rfl) (w.heap.size + 1) #[.slice am 32 cm, .slice an 32 cn, .int .i64 cnt] (by rfl) (by rfl) 88 _ BY.out size_ref5 (by rfl) (by simp [Value.oneCell']) ?_; intro W9 hW p9; have HB9 := Lib.hid (hW.below HB.out (Nat.le_succ _)); have TK9 := Lib.hid (TM.out.far' (row_of_wrote hW) (fun q o e h => by have := FM.out q o e; simp at h; omega)); have TV9 := Lib.hid (TN.out.far' (row_of_wrote hW) (fun q o e h => by have := FN.out q o e; simp at h; omega)); clear hW) | (refine wpList_store_slc rfl (.tmp 20) (.tmp 19) rfl w.heap.size 1 an 32 cn (by rfl) (by rfl) BX.out (by simp) ?_; intro u4 hW p; have BX := Lib.hid (show Blk u4 w.heap.size #[.slice am 32 cm, .slice an 32 cn, .int .i64 cnt] 88 from p); have BY := Lib.hid (hW.blk BY.out (by simp)); have HB := Lib.hid (hW.below HB.out (Nat.le_refl _)); have TM := Lib.hid (TM.out.far' (row_of_wrote hW) (fun q o e h => by have := FM.out q o e; simp at h; omega)); have TN := Lib.hid (TN.out.far' (row_of_wrote hW) (fun q o e h => by have := FN.out q o e; simp at h; omega)); have b0 := BX.out.cell 0 rfl; have b1 := BX.out.cell 1 rfl; clear hW p))
        refine bodyPost_ret (v := .agg #[.slice am 32 cm, .slice an 32 cn, .int .i64 cnt]) ?_ rfl ⟨_, _, _, _, _, _, rfl, ?_, ?_, (fun q o e => Nat.le_trans (by omega) (FM.out q o e)), (fun q o e => Nat.le_trans (by omega) (FN.out q o e)), HB9.out⟩
        · exact results_str rfl _ p9 rfl Tryd.underlying88 rfl size_ref5
        · have h := TK9.out
          rw [show KK = updK k v t by unfold updK; rw [if_pos HTN.out, HKK.out]] at h
          exact h
        · have h := TV9.out
          rw [show VV = updV k v t by unfold updV; rw [if_pos HTN.out, HVV.out, HKK.out]] at h
          exact h
      · go_simp
        have BJ := Blk.new v5 #[.slice va vn vc, .slice (some ⟨v0.heap.size, 0, none⟩) 1 1, .slice a n c] 28
        have hb := below_one' v5 (.cells #[.slice va vn vc, .slice (some ⟨v0.heap.size, 0, none⟩) 1 1, .slice a n c] 28)
        generalize World.alloc v5 _ = v9 at *
        have HB := Lib.hid (HB.out.trans (hb.mono HB.out.size))
        have BX := Lib.hid (BX.out.on hb)
        have BY := Lib.hid (BY.out.on hb)
        have BI := Lib.hid (BI.out.on hb)
        have TI := Lib.hid (TI.out.on hb)
        replace BJ := Lib.hid BJ
        clear hb
        refine hK _ _ (Lib.hid (BX.out.cell 1 rfl)).out (fun _ => ?_)
        clear hK K
        try simp only [Act.put, List.setIfInBounds_toArray, List.set_cons_succ, List.set_cons_zero]
        refine wpAnyH_ready (rs := [1, 7]) (by kernel_rfl) (by simp) ?_
        refine AllReadyH.cons (o := ⟨some 6, .load 28 (.tmp 5), 28, _, _, none⟩) rfl (fun K hK => ?_) (AllReadyH.cons (o := ⟨some 12, .call { callee := .value (.func 36), args := #[.tmp 11], argTypes := #[35] }, 28, _, _, none⟩) rfl (fun K hK => ?_) AllReadyH.nil)
        · rw [if_pos (by rfl)]
          refine wp_of_yields (yields_sl (.tmp 5) (by rfl) ⟨w.heap.size, 0, none⟩ (by rfl) (BX.out.cell 0 rfl)) ?_
          refine hK _ _ (Lib.hid (BX.out.cell 1 rfl)).out (fun _ => ?_)
          clear hK K
          try simp only [Act.put, List.setIfInBounds_toArray, List.set_cons_succ, List.set_cons_zero]
          refine wpAnyH_ready (rs := [7]) (by kernel_rfl) (by simp) ?_
          refine AllReadyH.cons (o := ⟨some 12, .call { callee := .value (.func 36), args := #[.tmp 11], argTypes := #[35] }, 28, _, _, none⟩) rfl (fun K hK => ?_) AllReadyH.nil
          go_simp
          refine (join_blk3 v9 _ _ BJ.out (HV.out.on HB.out) TI.out (HX.out.on HB.out) (by have := HTL.out; have := HVL.out; have := HV1L.out; simp only [List.length_cons, List.length_nil]; omega)).mono ?_
          rintro e v10 ⟨aj, nj, cj, rfl, hO, hb⟩
          have HB := Lib.hid (HB.out.trans (hb.mono HB.out.size))
          have BX := Lib.hid (BX.out.on hb)
          have BY := Lib.hid (BY.out.on hb)
          have BI := Lib.hid (BI.out.on hb)
          have TI := Lib.hid (TI.out.on hb)
          have BJ := Lib.hid (BJ.out.on hb)
          have TJ := Lib.hid (hO.txt)
          clear hb hO
          refine hK _ _ (Lib.hid (BX.out.cell 1 rfl)).out (fun _ => ?_)
          clear hK K
          try simp only [Act.put, List.setIfInBounds_toArray, List.set_cons_succ, List.set_cons_zero]
          refine wpAnyH_ready (rs := [8]) (by kernel_rfl) (by simp) ?_
          refine AllReadyH.cons (o := ⟨some 13, .call { callee := .value (.func 44), args := #[.tmp 6, .tmp 12], argTypes := #[28, 28] }, 28, _, _, none⟩) rfl (fun K hK => ?_) AllReadyH.nil
          go_simp
          refine (rmac_walk k _ ka _ _ _ nj cj v10 (HK.out.on HB.out) TJ.out (by have := HKL.out; have := HK1L.out; omega) (by have := HTL.out; have := HVL.out; have := HV1L.out; simp only [List.length_append, List.length_cons, List.length_nil]; omega)).mono ?_
          rintro e v11 ⟨am, cm, rfl, hO, hb⟩
          rw [show macL _ _ = KK from HKK.out.symm] at hO
          have FM := Lib.hid (far_of hO (show w.heap.size + 2 ≤ _ by have := BY.out.lt; omega))
          have HB := Lib.hid (HB.out.trans (hb.mono HB.out.size))
          have BX := Lib.hid (BX.out.on hb)
          have BY := Lib.hid (BY.out.on hb)
          have BI := Lib.hid (BI.out.on hb)
          have TI := Lib.hid (TI.out.on hb)
          have BJ := Lib.hid (BJ.out.on hb)
          have TJ := Lib.hid (TJ.out.on hb)
          have TM := Lib.hid (hO.txt)
          clear hb hO
          refine hK _ _ (Lib.hid (BX.out.cell 1 rfl)).out (fun _ => ?_)
          clear hK K
          try simp only [Act.put, List.setIfInBounds_toArray, List.set_cons_succ, List.set_cons_zero]
          refine wpAnyH_take (i := 9) (oi := ⟨some 14, .fieldAddr 88 (.tmp 2) 0, _, _, _, none⟩) (v := .pointer (some ⟨w.heap.size, 0, none⟩)) rfl (by kernel_rfl) (by kernel_rfl) (by kernel_rfl) (fun _ _ _ h => h) (Or.inl ⟨by rfl, fun _ _ => by go_simp⟩) (Lib.hid (BX.out.cell 1 rfl)).out ?_
          try simp only [Act.put, List.setIfInBounds_toArray, List.set_cons_succ, List.set_cons_zero]
          refine wpAnyH_ready (rs := [10]) (by kernel_rfl) (by simp) ?_
          refine AllReadyH.cons (o := ⟨none, .store 28 (.tmp 14) (.tmp 13), 0, _, _, none⟩) rfl (fun K hK => ?_) AllReadyH.nil
          rw [if_pos (by rfl)]
          refine wp_store_slc (.tmp 14) (.tmp 13) (by rfl) w.heap.size 0 am 32 cm (by rfl) (by rfl) BX.out (by simp) ?_
          intro vw hW p
          refine hK _ _ (p.cell 1 rfl) (fun _ => ?_)
          clear hK K
          have BX := Lib.hid (show Blk vw w.heap.size #[.slice am 32 cm, .slice va vn vc, .int .i64 cnt] 88 from p)
          have BY := Lib.hid (hW.blk BY.out (by simp))
          have HB := Lib.hid (hW.below HB.out (Nat.le_refl _))
          have TM := Lib.hid (TM.out.far' (row_of_wrote hW) (fun q o e h => by have := FM.out q o e; simp at h; omega))
          clear hW p
          refine wpAnyH_done (by kernel_rfl) ?_ _
          have b0 := BX.out.cell 0 rfl
          have b1 := BX.out.cell 1 rfl
          go_wp2_with fail
          refine (rmac_walk KK v _ _ _ _ _ _ _ TM.out (HV.out.on HB.out) (by have := HK1L.out; omega) (by have := HVL.out; have := HV1L.out; omega)).mono ?_
          rintro e u3 ⟨an, cn, rfl, hO, hb⟩
          rw [← HVV.out] at hO
          have FN := Lib.hid (far_of hO (show w.heap.size + 2 ≤ _ by have := BY.out.lt; omega))
          have TN := Lib.hid hO.txt
          have BX := Lib.hid (BX.out.on hb)
          have BY := Lib.hid (BY.out.on hb)
          have HB := Lib.hid (HB.out.trans (hb.mono HB.out.size))
          have TM := Lib.hid (TM.out.on hb)
          clear hb hO b0 b1
          go_wp2_with (first | (refine wpList_load_row rfl 88 (.tmp 2) rfl w.heap.size rfl 88 _ _ _ BX.out Tryd.underlying88 rfl size_ref5 ?_) | (refine wpList_store_abs rfl 88 (.tmp 4) (.tmp 40) (by rfl) (w.heap.size + 1) #[.slice am 32 cm, .slice an 32 cn, .int .i64 cnt] (by rfl) (by rfl) 88 _ BY.out size_ref5 (by rfl) (by simp [Value.oneCell']) ?_; intro W9 hW p9; have HB9 := Lib.hid (hW.below HB.out (Nat.le_succ _)); have TK9 := Lib.hid (TM.out.far' (row_of_wrote hW) (fun q o e h => by have := FM.out q o e; simp at h; omega)); have TV9 := Lib.hid (TN.out.far' (row_of_wrote hW) (fun q o e h => by have := FN.out q o e; simp at h; omega)); clear hW) | (refine wpList_store_slc rfl (.tmp 20) (.tmp 19) rfl w.heap.size 1 an 32 cn (by rfl) (by rfl) BX.out (by simp) ?_; intro u4 hW p; have BX := Lib.hid (show Blk u4 w.heap.size #[.slice am 32 cm, .slice an 32 cn, .int .i64 cnt] 88 from p); have BY := Lib.hid (hW.blk BY.out (by simp)); have HB := Lib.hid (hW.below HB.out (Nat.le_refl _)); have TM := Lib.hid (TM.out.far' (row_of_wrote hW) (fun q o e h => by have := FM.out q o e; simp at h; omega)); have TN := Lib.hid (TN.out.far' (row_of_wrote hW) (fun q o e h => by have := FN.out q o e; simp at h; omega)); have b0 := BX.out.cell 0 rfl; have b1 := BX.out.cell 1 rfl; clear hW p))
          refine bodyPost_ret (v := .agg #[.slice am 32 cm, .slice an 32 cn, .int .i64 cnt]) ?_ rfl ⟨_, _, _, _, _, _, rfl, ?_, ?_, (fun q o e => Nat.le_trans (by omega) (FM.out q o e)), (fun q o e => Nat.le_trans (by omega) (FN.out q o e)), HB9.out⟩
          · exact results_str rfl _ p9 rfl Tryd.underlying88 rfl size_ref5
          · have h := TK9.out
            rw [show KK = updK k v t by unfold updK; rw [if_pos HTN.out, HKK.out]] at h
            exact h
          · have h := TV9.out
            rw [show VV = updV k v t by unfold updV; rw [if_pos HTN.out, HVV.out, HKK.out]] at h
            exact h
        · go_simp
          refine (join_blk3 v9 _ _ BJ.out (HV.out.on HB.out) TI.out (HX.out.on HB.out) (by have := HTL.out; have := HVL.out; have := HV1L.out; simp only [List.length_cons, List.length_nil]; omega)).mono ?_
          rintro e v12 ⟨aj, nj, cj, rfl, hO, hb⟩
          have HB := Lib.hid (HB.out.trans (hb.mono HB.out.size))
          have BX := Lib.hid (BX.out.on hb)
          have BY := Lib.hid (BY.out.on hb)
          have BI := Lib.hid (BI.out.on hb)
          have TI := Lib.hid (TI.out.on hb)
          have BJ := Lib.hid (BJ.out.on hb)
          have TJ := Lib.hid (hO.txt)
          clear hb hO
          refine hK _ _ (Lib.hid (BX.out.cell 1 rfl)).out (fun _ => ?_)
          clear hK K
          try simp only [Act.put, List.setIfInBounds_toArray, List.set_cons_succ, List.set_cons_zero]
          refine wpAnyH_ready (rs := [1]) (by kernel_rfl) (by simp) ?_
          refine AllReadyH.cons (o := ⟨some 6, .load 28 (.tmp 5), 28, _, _, none⟩) rfl (fun K hK => ?_) AllReadyH.nil
          rw [if_pos (by rfl)]
          refine wp_of_yields (yields_sl (.tmp 5) (by rfl) ⟨w.heap.size, 0, none⟩ (by rfl) (BX.out.cell 0 rfl)) ?_
          refine hK _ _ (Lib.hid (BX.out.cell 1 rfl)).out (fun _ => ?_)
          clear hK K
          try simp only [Act.put, List.setIfInBounds_toArray, List.set_cons_succ, List.set_cons_zero]
          refine wpAnyH_ready (rs := [8]) (by kernel_rfl) (by simp) ?_
          refine AllReadyH.cons (o := ⟨some 13, .call { callee := .value (.func 44), args := #[.tmp 6, .tmp 12], argTypes := #[28, 28] }, 28, _, _, none⟩) rfl (fun K hK => ?_) AllReadyH.nil
          go_simp
          refine (rmac_walk k _ ka _ _ _ nj cj v12 (HK.out.on HB.out) TJ.out (by have := HKL.out; have := HK1L.out; omega) (by have := HTL.out; have := HVL.out; have := HV1L.out; simp only [List.length_append, List.length_cons, List.length_nil]; omega)).mono ?_
          rintro e v13 ⟨am, cm, rfl, hO, hb⟩
          rw [show macL _ _ = KK from HKK.out.symm] at hO
          have FM := Lib.hid (far_of hO (show w.heap.size + 2 ≤ _ by have := BY.out.lt; omega))
          have HB := Lib.hid (HB.out.trans (hb.mono HB.out.size))
          have BX := Lib.hid (BX.out.on hb)
          have BY := Lib.hid (BY.out.on hb)
          have BI := Lib.hid (BI.out.on hb)
          have TI := Lib.hid (TI.out.on hb)
          have BJ := Lib.hid (BJ.out.on hb)
          have TJ := Lib.hid (TJ.out.on hb)
          have TM := Lib.hid (hO.txt)
          clear hb hO
          refine hK _ _ (Lib.hid (BX.out.cell 1 rfl)).out (fun _ => ?_)
          clear hK K
          try simp only [Act.put, List.setIfInBounds_toArray, List.set_cons_succ, List.set_cons_zero]
          refine wpAnyH_take (i := 9) (oi := ⟨some 14, .fieldAddr 88 (.tmp 2) 0, _, _, _, none⟩) (v := .pointer (some ⟨w.heap.size, 0, none⟩)) rfl (by kernel_rfl) (by kernel_rfl) (by kernel_rfl) (fun _ _ _ h => h) (Or.inl ⟨by rfl, fun _ _ => by go_simp⟩) (Lib.hid (BX.out.cell 1 rfl)).out ?_
          try simp only [Act.put, List.setIfInBounds_toArray, List.set_cons_succ, List.set_cons_zero]
          refine wpAnyH_ready (rs := [10]) (by kernel_rfl) (by simp) ?_
          refine AllReadyH.cons (o := ⟨none, .store 28 (.tmp 14) (.tmp 13), 0, _, _, none⟩) rfl (fun K hK => ?_) AllReadyH.nil
          rw [if_pos (by rfl)]
          refine wp_store_slc (.tmp 14) (.tmp 13) (by rfl) w.heap.size 0 am 32 cm (by rfl) (by rfl) BX.out (by simp) ?_
          intro vw hW p
          refine hK _ _ (p.cell 1 rfl) (fun _ => ?_)
          clear hK K
          have BX := Lib.hid (show Blk vw w.heap.size #[.slice am 32 cm, .slice va vn vc, .int .i64 cnt] 88 from p)
          have BY := Lib.hid (hW.blk BY.out (by simp))
          have HB := Lib.hid (hW.below HB.out (Nat.le_refl _))
          have TM := Lib.hid (TM.out.far' (row_of_wrote hW) (fun q o e h => by have := FM.out q o e; simp at h; omega))
          clear hW p
          refine wpAnyH_done (by kernel_rfl) ?_ _
          have b0 := BX.out.cell 0 rfl
          have b1 := BX.out.cell 1 rfl
          go_wp2_with fail
          refine (rmac_walk KK v _ _ _ _ _ _ _ TM.out (HV.out.on HB.out) (by have := HK1L.out; omega) (by have := HVL.out; have := HV1L.out; omega)).mono ?_
          rintro e u3 ⟨an, cn, rfl, hO, hb⟩
          rw [← HVV.out] at hO
          have FN := Lib.hid (far_of hO (show w.heap.size + 2 ≤ _ by have := BY.out.lt; omega))
          have TN := Lib.hid hO.txt
          have BX := Lib.hid (BX.out.on hb)
          have BY := Lib.hid (BY.out.on hb)
          have HB := Lib.hid (HB.out.trans (hb.mono HB.out.size))
          have TM := Lib.hid (TM.out.on hb)
          clear hb hO b0 b1
          go_wp2_with (first | (refine wpList_load_row rfl 88 (.tmp 2) rfl w.heap.size rfl 88 _ _ _ BX.out Tryd.underlying88 rfl size_ref5 ?_) | (refine wpList_store_abs rfl 88 (.tmp 4) (.tmp 40) (by rfl) (w.heap.size + 1) #[.slice am 32 cm, .slice an 32 cn, .int .i64 cnt] (by rfl) (by rfl) 88 _ BY.out size_ref5 (by rfl) (by simp [Value.oneCell']) ?_; intro W9 hW p9; have HB9 := Lib.hid (hW.below HB.out (Nat.le_succ _)); have TK9 := Lib.hid (TM.out.far' (row_of_wrote hW) (fun q o e h => by have := FM.out q o e; simp at h; omega)); have TV9 := Lib.hid (TN.out.far' (row_of_wrote hW) (fun q o e h => by have := FN.out q o e; simp at h; omega)); clear hW) | (refine wpList_store_slc rfl (.tmp 20) (.tmp 19) rfl w.heap.size 1 an 32 cn (by rfl) (by rfl) BX.out (by simp) ?_; intro u4 hW p; have BX := Lib.hid (show Blk u4 w.heap.size #[.slice am 32 cm, .slice an 32 cn, .int .i64 cnt] 88 from p); have BY := Lib.hid (hW.blk BY.out (by simp)); have HB := Lib.hid (hW.below HB.out (Nat.le_refl _)); have TM := Lib.hid (TM.out.far' (row_of_wrote hW) (fun q o e h => by have := FM.out q o e; simp at h; omega)); have TN := Lib.hid (TN.out.far' (row_of_wrote hW) (fun q o e h => by have := FN.out q o e; simp at h; omega)); have b0 := BX.out.cell 0 rfl; have b1 := BX.out.cell 1 rfl; clear hW p))
          refine bodyPost_ret (v := .agg #[.slice am 32 cm, .slice an 32 cn, .int .i64 cnt]) ?_ rfl ⟨_, _, _, _, _, _, rfl, ?_, ?_, (fun q o e => Nat.le_trans (by omega) (FM.out q o e)), (fun q o e => Nat.le_trans (by omega) (FN.out q o e)), HB9.out⟩
          · exact results_str rfl _ p9 rfl Tryd.underlying88 rfl size_ref5
          · have h := TK9.out
            rw [show KK = updK k v t by unfold updK; rw [if_pos HTN.out, HKK.out]] at h
            exact h
          · have h := TV9.out
            rw [show VV = updV k v t by unfold updV; rw [if_pos HTN.out, HVV.out, HKK.out]] at h
            exact h
  · have HTN := Lib.hid ht
    have hz : (0 : Int) < (n : Int) := by have := HNT.out; have : t.length ≠ 0 := fun h => ht (List.eq_nil_of_length_eq_zero h); omega
    clear ht
    have BX0 := (Blk.new w #[.slice ka kn kc, .slice va vn vc, .int .i64 cnt] 88).alloc (.cells #[.slice none 0 0, .slice none 0 0, .int .i64 0] 88)
    have BY0 := Blk.new' (w.alloc (.cells #[.slice ka kn kc, .slice va vn vc, .int .i64 cnt] 88)) #[.slice none 0 0, .slice none 0 0, .int .i64 0] 88 (g := w.heap.size + 1) (by simp)
    have HB0 := below_two w (.cells #[.slice ka kn kc, .slice va vn vc, .int .i64 cnt] 88) (.cells #[.slice none 0 0, .slice none 0 0, .int .i64 0] 88)
    have BX := Lib.hid BX0
    have BY := Lib.hid BY0
    have HB := Lib.hid HB0
    clear BX0 BY0 HB0
    go_enter Tryd.func117, Tryd.ntmps117
    go_wp2
    generalize (w.alloc (.cells #[.slice ka kn kc, .slice va vn vc, .int .i64 cnt] 88)).alloc (.cells #[.slice none 0 0, .slice none 0 0, .int .i64 0] 88) = w2 at *
    refine wp_region_held_drew (S := fun w' => w'.cell? ⟨w.heap.size, 1, none⟩ = some (.slice va vn vc)) (by kernel_rfl) (BX.out.drew.cell 1 rfl) (fun _ => ?_)
    have hb : Below w2.heap.size w2 (World.drew w2) := (Below.refl _ _).drew
    have HB := Lib.hid (HB.out.trans (hb.mono HB.out.size))
    have BX := Lib.hid (BX.out.on hb)
    have BY := Lib.hid (BY.out.on hb)
    clear hb
    generalize World.drew w2 = v0 at *
    try simp only [Act.put, List.setIfInBounds_toArray, List.set_cons_succ, List.set_cons_zero]
    refine wpAnyH_take (i := 0) (oi := ⟨some 5, .fieldAddr 88 (.tmp 2) 0, _, _, _, none⟩) (v := .pointer (some ⟨w.heap.size, 0, none⟩)) rfl (by kernel_rfl) (by kernel_rfl) (by kernel_rfl) (fun _ _ _ h => h) (Or.inl ⟨by rfl, fun _ _ => by go_simp⟩) (Lib.hid (BX.out.cell 1 rfl)).out ?_
    try simp only [Act.put, List.setIfInBounds_toArray, List.set_cons_succ, List.set_cons_zero]
    refine wpAnyH_take (i := 2) (oi := ⟨some 7, .fieldAddr 88 (.tmp 2) 1, _, _, _, none⟩) (v := .pointer (some ⟨w.heap.size, 1, none⟩)) rfl (by kernel_rfl) (by kernel_rfl) (by kernel_rfl) (fun _ _ _ h => h) (Or.inl ⟨by rfl, fun _ _ => by go_simp⟩) (Lib.hid (BX.out.cell 1 rfl)).out ?_
    try simp only [Act.put, List.setIfInBounds_toArray, List.set_cons_succ, List.set_cons_zero]
    refine wpAnyH_take (i := 3) (oi := ⟨some 8, .load 28 (.tmp 7), 28, _, _, none⟩) (v := .slice va vn vc) rfl (by kernel_rfl) (by kernel_rfl) (by kernel_rfl) (fun _ _ _ h => h) (Or.inl ⟨by rfl, fun vv hvv => yields_sl (.tmp 7) rfl ⟨w.heap.size, 1, none⟩ rfl hvv⟩) (Lib.hid (BX.out.cell 1 rfl)).out ?_
    try simp only [Act.put, List.setIfInBounds_toArray, List.set_cons_succ, List.set_cons_zero]
    refine wpAnyH_take (i := 5) (oi := ⟨some 10, .move (.tmp 1), 28, _, _, none⟩) (v := .slice a n c) rfl (by kernel_rfl) (by kernel_rfl) (by kernel_rfl) (fun _ _ _ h => h) (Or.inl ⟨by rfl, fun _ _ => by go_simp⟩) (Lib.hid (BX.out.cell 1 rfl)).out ?_
    try simp only [Act.put, List.setIfInBounds_toArray, List.set_cons_succ, List.set_cons_zero]
    refine wpAnyH_ready (rs := [1, 4]) (by kernel_rfl) (by simp) ?_
    refine AllReadyH.cons (o := ⟨some 6, .load 28 (.tmp 5), 28, _, _, none⟩) rfl (fun K hK => ?_) (AllReadyH.cons (o := ⟨some 9, .buildSlice 28 1 #[(0, .const (.int .u8 0))], 28, _, _, none⟩) rfl (fun K hK => ?_) AllReadyH.nil)
    · rw [if_pos (by rfl)]
      refine wp_of_yields (yields_sl (.tmp 5) (by rfl) ⟨w.heap.size, 0, none⟩ (by rfl) (BX.out.cell 0 rfl)) ?_
      refine hK _ _ (Lib.hid (BX.out.cell 1 rfl)).out (fun _ => ?_)
      clear hK K
      try simp only [Act.put, List.setIfInBounds_toArray, List.set_cons_succ, List.set_cons_zero]
      refine wpAnyH_ready (rs := [4]) (by kernel_rfl) (by simp) ?_
      refine AllReadyH.cons (o := ⟨some 9, .buildSlice 28 1 #[(0, .const (.int .u8 0))], 28, _, _, none⟩) rfl (fun K hK => ?_) AllReadyH.nil
      go_simp
      have BI := Blk.new v0 #[.int .u8 0] 5
      have hb := below_one' v0 (.cells #[.int .u8 0] 5)
      generalize World.alloc v0 _ = v1 at *
      have HB := Lib.hid (HB.out.trans (hb.mono HB.out.size))
      have BX := Lib.hid (BX.out.on hb)
      have BY := Lib.hid (BY.out.on hb)
      replace BI := Lib.hid BI
      have TI := Lib.hid (by have h : Blk _ _ (barr [0]) _ := BI.out; exact Txt.of_blk h)
      clear hb
      refine hK _ _ (Lib.hid (BX.out.cell 1 rfl)).out (fun _ => ?_)
      clear hK K
      try simp only [Act.put, List.setIfInBounds_toArray, List.set_cons_succ, List.set_cons_zero]
      refine wpAnyH_ready (rs := [6]) (by kernel_rfl) (by simp) ?_
      refine AllReadyH.cons (o := ⟨some 11, .buildSlice 35 3 #[(0, .tmp 8), (1, .tmp 9), (2, .tmp 10)], 35, _, _, none⟩) rfl (fun K hK => ?_) AllReadyH.nil
      go_simp
      have BJ := Blk.new v1 #[.slice va vn vc, .slice (some ⟨v0.heap.size, 0, none⟩) 1 1, .slice a n c] 28
      have hb := below_one' v1 (.cells #[.slice va vn vc, .slice (some ⟨v0.heap.size, 0, none⟩) 1 1, .slice a n c] 28)
      generalize World.alloc v1 _ = v2 at *
      have HB := Lib.hid (HB.out.trans (hb.mono HB.out.size))
      have BX := Lib.hid (BX.out.on hb)
      have BY := Lib.hid (BY.out.on hb)
      have BI := Lib.hid (BI.out.on hb)
      have TI := Lib.hid (TI.out.on hb)
      replace BJ := Lib.hid BJ
      clear hb
      refine hK _ _ (Lib.hid (BX.out.cell 1 rfl)).out (fun _ => ?_)
      clear hK K
      try simp only [Act.put, List.setIfInBounds_toArray, List.set_cons_succ, List.set_cons_zero]
      refine wpAnyH_ready (rs := [7]) (by kernel_rfl) (by simp) ?_
      refine AllReadyH.cons (o := ⟨some 12, .call { callee := .value (.func 36), args := #[.tmp 11], argTypes := #[35] }, 28, _, _, none⟩) rfl (fun K hK => ?_) AllReadyH.nil
      go_simp
      refine (join_blk3 v2 _ _ BJ.out (HV.out.on HB.out) TI.out (HX.out.on HB.out) (by have := HTL.out; have := HVL.out; have := HV1L.out; simp only [List.length_cons, List.length_nil]; omega)).mono ?_
      rintro e v3 ⟨aj, nj, cj, rfl, hO, hb⟩
      have HB := Lib.hid (HB.out.trans (hb.mono HB.out.size))
      have BX := Lib.hid (BX.out.on hb)
      have BY := Lib.hid (BY.out.on hb)
      have BI := Lib.hid (BI.out.on hb)
      have TI := Lib.hid (TI.out.on hb)
      have BJ := Lib.hid (BJ.out.on hb)
      have TJ := Lib.hid (hO.txt)
      clear hb hO
      refine hK _ _ (Lib.hid (BX.out.cell 1 rfl)).out (fun _ => ?_)
      clear hK K
      try simp only [Act.put, List.setIfInBounds_toArray, List.set_cons_succ, List.set_cons_zero]
      refine wpAnyH_ready (rs := [8]) (by kernel_rfl) (by simp) ?_
      refine AllReadyH.cons (o := ⟨some 13, .call { callee := .value (.func 44), args := #[.tmp 6, .tmp 12], argTypes := #[28, 28] }, 28, _, _, none⟩) rfl (fun K hK => ?_) AllReadyH.nil
      go_simp
      refine (rmac_walk k _ ka _ _ _ nj cj v3 (HK.out.on HB.out) TJ.out (by have := HKL.out; have := HK1L.out; omega) (by have := HTL.out; have := HVL.out; have := HV1L.out; simp only [List.length_append, List.length_cons, List.length_nil]; omega)).mono ?_
      rintro e v4 ⟨am, cm, rfl, hO, hb⟩
      rw [show macL _ _ = KK from HKK.out.symm] at hO
      have FM := Lib.hid (far_of hO (show w.heap.size + 2 ≤ _ by have := BY.out.lt; omega))
      have HB := Lib.hid (HB.out.trans (hb.mono HB.out.size))
      have BX := Lib.hid (BX.out.on hb)
      have BY := Lib.hid (BY.out.on hb)
      have BI := Lib.hid (BI.out.on hb)
      have TI := Lib.hid (TI.out.on hb)
      have BJ := Lib.hid (BJ.out.on hb)
      have TJ := Lib.hid (TJ.out.on hb)
      have TM := Lib.hid (hO.txt)
      clear hb hO
      refine hK _ _ (Lib.hid (BX.out.cell 1 rfl)).out (fun _ => ?_)
      clear hK K
      try simp only [Act.put, List.setIfInBounds_toArray, List.set_cons_succ, List.set_cons_zero]
      refine wpAnyH_take (i := 9) (oi := ⟨some 14, .fieldAddr 88 (.tmp 2) 0, _, _, _, none⟩) (v := .pointer (some ⟨w.heap.size, 0, none⟩)) rfl (by kernel_rfl) (by kernel_rfl) (by kernel_rfl) (fun _ _ _ h => h) (Or.inl ⟨by rfl, fun _ _ => by go_simp⟩) (Lib.hid (BX.out.cell 1 rfl)).out ?_
      try simp only [Act.put, List.setIfInBounds_toArray, List.set_cons_succ, List.set_cons_zero]
      refine wpAnyH_ready (rs := [10]) (by kernel_rfl) (by simp) ?_
      refine AllReadyH.cons (o := ⟨none, .store 28 (.tmp 14) (.tmp 13), 0, _, _, none⟩) rfl (fun K hK => ?_) AllReadyH.nil
      rw [if_pos (by rfl)]
      refine wp_store_slc (.tmp 14) (.tmp 13) (by rfl) w.heap.size 0 am 32 cm (by rfl) (by rfl) BX.out (by simp) ?_
      intro vw hW p
      refine hK _ _ (p.cell 1 rfl) (fun _ => ?_)
      clear hK K
      have BX := Lib.hid (show Blk vw w.heap.size #[.slice am 32 cm, .slice va vn vc, .int .i64 cnt] 88 from p)
      have BY := Lib.hid (hW.blk BY.out (by simp))
      have HB := Lib.hid (hW.below HB.out (Nat.le_refl _))
      have TM := Lib.hid (TM.out.far' (row_of_wrote hW) (fun q o e h => by have := FM.out q o e; simp at h; omega))
      clear hW p
      refine wpAnyH_done (by kernel_rfl) ?_ _
      have b0 := BX.out.cell 0 rfl
      have b1 := BX.out.cell 1 rfl
      go_wp2_with fail
      refine (rmac_walk KK v _ _ _ _ _ _ _ TM.out (HV.out.on HB.out) (by have := HK1L.out; omega) (by have := HVL.out; have := HV1L.out; omega)).mono ?_
      rintro e u3 ⟨an, cn, rfl, hO, hb⟩
      rw [← HVV.out] at hO
      have FN := Lib.hid (far_of hO (show w.heap.size + 2 ≤ _ by have := BY.out.lt; omega))
      have TN := Lib.hid hO.txt
      have BX := Lib.hid (BX.out.on hb)
      have BY := Lib.hid (BY.out.on hb)
      have HB := Lib.hid (HB.out.trans (hb.mono HB.out.size))
      have TM := Lib.hid (TM.out.on hb)
      clear hb hO b0 b1
      go_wp2_with (first | (refine wpList_store_slc rfl (.tmp 20) (.tmp 19) rfl w.heap.size 1 an 32 cn (by rfl) (by rfl) BX.out (by simp) ?_; intro u4 hW p; have BX := Lib.hid (show Blk u4 w.heap.size #[.slice am 32 cm, .slice an 32 cn, .int .i64 cnt] 88 from p); have BY := Lib.hid (hW.blk BY.out (by simp)); have HB := Lib.hid (hW.below HB.out (Nat.le_refl _)); have TM := Lib.hid (TM.out.far' (row_of_wrote hW) (fun q o e h => by have := FM.out q o e; simp at h; omega)); have TN := Lib.hid (TN.out.far' (row_of_wrote hW) (fun q o e h => by have := FN.out q o e; simp at h; omega)); have b0 := BX.out.cell 0 rfl; have b1 := BX.out.cell 1 rfl; clear hW p))
      have TM1 := TM
      have TN1 := TN
      have FM1 := FM
      have FN1 := FN
      clear TM TN FM FN b0 b1
      go_wp2
      refine wp_region_held_drew (S := fun w' => w'.cell? ⟨w.heap.size, 1, none⟩ = some (.slice an 32 cn)) (by kernel_rfl) (BX.out.drew.cell 1 rfl) (fun _ => ?_)
      have hb : Below u4.heap.size u4 (World.drew u4) := (Below.refl _ _).drew
      have HB := Lib.hid (HB.out.trans (hb.mono HB.out.size))
      have BX := Lib.hid (BX.out.on hb)
      have BY := Lib.hid (BY.out.on hb)
      have TM1 := Lib.hid (TM1.out.on hb)
      have TN1 := Lib.hid (TN1.out.on hb)
      clear hb
      generalize World.drew u4 = x0 at *
      try simp only [Act.put, List.setIfInBounds_toArray, List.set_cons_succ, List.set_cons_zero]
      refine wpAnyH_take (i := 0) (oi := ⟨some 24, .fieldAddr 88 (.tmp 2) 0, _, _, _, none⟩) (v := .pointer (some ⟨w.heap.size, 0, none⟩)) rfl (by kernel_rfl) (by kernel_rfl) (by kernel_rfl) (fun _ _ _ h => h) (Or.inl ⟨by rfl, fun _ _ => by go_simp⟩) (Lib.hid (BX.out.cell 1 rfl)).out ?_
      try simp only [Act.put, List.setIfInBounds_toArray, List.set_cons_succ, List.set_cons_zero]
      refine wpAnyH_take (i := 2) (oi := ⟨some 26, .fieldAddr 88 (.tmp 2) 1, _, _, _, none⟩) (v := .pointer (some ⟨w.heap.size, 1, none⟩)) rfl (by kernel_rfl) (by kernel_rfl) (by kernel_rfl) (fun _ _ _ h => h) (Or.inl ⟨by rfl, fun _ _ => by go_simp⟩) (Lib.hid (BX.out.cell 1 rfl)).out ?_
      try simp only [Act.put, List.setIfInBounds_toArray, List.set_cons_succ, List.set_cons_zero]
      refine wpAnyH_take (i := 3) (oi := ⟨some 27, .load 28 (.tmp 26), 28, _, _, none⟩) (v := .slice an 32 cn) rfl (by kernel_rfl) (by kernel_rfl) (by kernel_rfl) (fun _ _ _ h => h) (Or.inl ⟨by rfl, fun vv hvv => yields_sl (.tmp 26) rfl ⟨w.heap.size, 1, none⟩ rfl hvv⟩) (Lib.hid (BX.out.cell 1 rfl)).out ?_
      try simp only [Act.put, List.setIfInBounds_toArray, List.set_cons_succ, List.set_cons_zero]
      refine wpAnyH_take (i := 5) (oi := ⟨some 29, .move (.tmp 1), 28, _, _, none⟩) (v := .slice a n c) rfl (by kernel_rfl) (by kernel_rfl) (by kernel_rfl) (fun _ _ _ h => h) (Or.inl ⟨by rfl, fun _ _ => by go_simp⟩) (Lib.hid (BX.out.cell 1 rfl)).out ?_
      try simp only [Act.put, List.setIfInBounds_toArray, List.set_cons_succ, List.set_cons_zero]
      refine wpAnyH_ready (rs := [1, 4]) (by kernel_rfl) (by simp) ?_
      refine AllReadyH.cons (o := ⟨some 25, .load 28 (.tmp 24), 28, _, _, none⟩) rfl (fun K hK => ?_) (AllReadyH.cons (o := ⟨some 28, .buildSlice 28 1 #[(0, .const (.int .u8 1))], 28, _, _, none⟩) rfl (fun K hK => ?_) AllReadyH.nil)
      · rw [if_pos (by rfl)]
        refine wp_of_yields (yields_sl (.tmp 24) (by rfl) ⟨w.heap.size, 0, none⟩ (by rfl) (BX.out.cell 0 rfl)) ?_
        refine hK _ _ (Lib.hid (BX.out.cell 1 rfl)).out (fun _ => ?_)
        clear hK K
        try simp only [Act.put, List.setIfInBounds_toArray, List.set_cons_succ, List.set_cons_zero]
        refine wpAnyH_ready (rs := [4]) (by kernel_rfl) (by simp) ?_
        refine AllReadyH.cons (o := ⟨some 28, .buildSlice 28 1 #[(0, .const (.int .u8 1))], 28, _, _, none⟩) rfl (fun K hK => ?_) AllReadyH.nil
        go_simp
        have BI := Blk.new x0 #[.int .u8 1] 5
        have hb := below_one' x0 (.cells #[.int .u8 1] 5)
        generalize World.alloc x0 _ = v1 at *
        have HB := Lib.hid (HB.out.trans (hb.mono HB.out.size))
        have BX := Lib.hid (BX.out.on hb)
        have BY := Lib.hid (BY.out.on hb)
        have TM1 := Lib.hid (TM1.out.on hb)
        have TN1 := Lib.hid (TN1.out.on hb)
        replace BI := Lib.hid BI
        have TI := Lib.hid (by have h : Blk _ _ (barr [1]) _ := BI.out; exact Txt.of_blk h)
        clear hb
        refine hK _ _ (Lib.hid (BX.out.cell 1 rfl)).out (fun _ => ?_)
        clear hK K
        try simp only [Act.put, List.setIfInBounds_toArray, List.set_cons_succ, List.set_cons_zero]
        refine wpAnyH_ready (rs := [6]) (by kernel_rfl) (by simp) ?_
        refine AllReadyH.cons (o := ⟨some 30, .buildSlice 35 3 #[(0, .tmp 27), (1, .tmp 28), (2, .tmp 29)], 35, _, _, none⟩) rfl (fun K hK => ?_) AllReadyH.nil
        go_simp
        have BJ := Blk.new v1 #[.slice an 32 cn, .slice (some ⟨x0.heap.size, 0, none⟩) 1 1, .slice a n c] 28
        have hb := below_one' v1 (.cells #[.slice an 32 cn, .slice (some ⟨x0.heap.size, 0, none⟩) 1 1, .slice a n c] 28)
        generalize World.alloc v1 _ = v2 at *
        have HB := Lib.hid (HB.out.trans (hb.mono HB.out.size))
        have BX := Lib.hid (BX.out.on hb)
        have BY := Lib.hid (BY.out.on hb)
        have TM1 := Lib.hid (TM1.out.on hb)
        have TN1 := Lib.hid (TN1.out.on hb)
        have BI := Lib.hid (BI.out.on hb)
        have TI := Lib.hid (TI.out.on hb)
        replace BJ := Lib.hid BJ
        clear hb
        refine hK _ _ (Lib.hid (BX.out.cell 1 rfl)).out (fun _ => ?_)
        clear hK K
        try simp only [Act.put, List.setIfInBounds_toArray, List.set_cons_succ, List.set_cons_zero]
        refine wpAnyH_ready (rs := [7]) (by kernel_rfl) (by simp) ?_
        refine AllReadyH.cons (o := ⟨some 31, .call { callee := .value (.func 36), args := #[.tmp 30], argTypes := #[35] }, 28, _, _, none⟩) rfl (fun K hK => ?_) AllReadyH.nil
        go_simp
        refine (join_blk3 v2 _ _ BJ.out TN1.out TI.out (HX.out.on HB.out) (by have := HTL.out; have := HVL.out; have := HV1L.out; simp only [List.length_cons, List.length_nil]; omega)).mono ?_
        rintro e v3 ⟨aj2, nj2, cj2, rfl, hO, hb⟩
        have HB := Lib.hid (HB.out.trans (hb.mono HB.out.size))
        have BX := Lib.hid (BX.out.on hb)
        have BY := Lib.hid (BY.out.on hb)
        have TM1 := Lib.hid (TM1.out.on hb)
        have TN1 := Lib.hid (TN1.out.on hb)
        have BI := Lib.hid (BI.out.on hb)
        have TI := Lib.hid (TI.out.on hb)
        have BJ := Lib.hid (BJ.out.on hb)
        have TJ := Lib.hid (hO.txt)
        clear hb hO
        refine hK _ _ (Lib.hid (BX.out.cell 1 rfl)).out (fun _ => ?_)
        clear hK K
        try simp only [Act.put, List.setIfInBounds_toArray, List.set_cons_succ, List.set_cons_zero]
        refine wpAnyH_ready (rs := [8]) (by kernel_rfl) (by simp) ?_
        refine AllReadyH.cons (o := ⟨some 32, .call { callee := .value (.func 44), args := #[.tmp 25, .tmp 31], argTypes := #[28, 28] }, 28, _, _, none⟩) rfl (fun K hK => ?_) AllReadyH.nil
        go_simp
        refine (rmac_walk KK _ am _ _ _ nj2 cj2 v3 TM1.out TJ.out (by have := HKL.out; have := HK1L.out; omega) (by have := HTL.out; have := HVL.out; have := HV1L.out; simp only [List.length_append, List.length_cons, List.length_nil]; omega)).mono ?_
        rintro e v4 ⟨am2, cm2, rfl, hO, hb⟩
        rw [show macL _ _ = K2 from HK2.out.symm] at hO
        have FM := Lib.hid (far_of hO (show w.heap.size + 2 ≤ _ by have := BY.out.lt; omega))
        have HB := Lib.hid (HB.out.trans (hb.mono HB.out.size))
        have BX := Lib.hid (BX.out.on hb)
        have BY := Lib.hid (BY.out.on hb)
        have TM1 := Lib.hid (TM1.out.on hb)
        have TN1 := Lib.hid (TN1.out.on hb)
        have BI := Lib.hid (BI.out.on hb)
        have TI := Lib.hid (TI.out.on hb)
        have BJ := Lib.hid (BJ.out.on hb)
        have TJ := Lib.hid (TJ.out.on hb)
        have TM := Lib.hid (hO.txt)
        clear hb hO
        refine hK _ _ (Lib.hid (BX.out.cell 1 rfl)).out (fun _ => ?_)
        clear hK K
        try simp only [Act.put, List.setIfInBounds_toArray, List.set_cons_succ, List.set_cons_zero]
        refine wpAnyH_take (i := 9) (oi := ⟨some 33, .fieldAddr 88 (.tmp 2) 0, _, _, _, none⟩) (v := .pointer (some ⟨w.heap.size, 0, none⟩)) rfl (by kernel_rfl) (by kernel_rfl) (by kernel_rfl) (fun _ _ _ h => h) (Or.inl ⟨by rfl, fun _ _ => by go_simp⟩) (Lib.hid (BX.out.cell 1 rfl)).out ?_
        try simp only [Act.put, List.setIfInBounds_toArray, List.set_cons_succ, List.set_cons_zero]
        refine wpAnyH_ready (rs := [10]) (by kernel_rfl) (by simp) ?_
        refine AllReadyH.cons (o := ⟨none, .store 28 (.tmp 33) (.tmp 32), 0, _, _, none⟩) rfl (fun K hK => ?_) AllReadyH.nil
        rw [if_pos (by rfl)]
        refine wp_store_slc (.tmp 33) (.tmp 32) (by rfl) w.heap.size 0 am2 32 cm2 (by rfl) (by rfl) BX.out (by simp) ?_
        intro xw hW p
        refine hK _ _ (p.cell 1 rfl) (fun _ => ?_)
        clear hK K
        have BX := Lib.hid (show Blk xw w.heap.size #[.slice am2 32 cm2, .slice an 32 cn, .int .i64 cnt] 88 from p)
        have BY := Lib.hid (hW.blk BY.out (by simp))
        have HB := Lib.hid (hW.below HB.out (Nat.le_refl _))
        have TM := Lib.hid (TM.out.far' (row_of_wrote hW) (fun q o e h => by have := FM.out q o e; simp at h; omega))
        have TN1 := Lib.hid (TN1.out.far' (row_of_wrote hW) (fun q o e h => by have := FN1.out q o e; simp at h; omega))
        clear hW p
        refine wpAnyH_done (by kernel_rfl) ?_ _
        have b0 := BX.out.cell 0 rfl
        have b1 := BX.out.cell 1 rfl
        go_wp2_with fail
        refine (rmac_walk K2 VV _ _ _ _ _ _ _ TM.out TN1.out (by have := HK1L.out; omega) (by have := HVL.out; have := HV1L.out; omega)).mono ?_
        rintro e u7 ⟨ao, co, rfl, hO, hb⟩
        rw [← HV2.out] at hO
        have FN := Lib.hid (far_of hO (show w.heap.size + 2 ≤ _ by have := BY.out.lt; omega))
        have TN := Lib.hid hO.txt
        have BX := Lib.hid (BX.out.on hb)
        have BY := Lib.hid (BY.out.on hb)
        have HB := Lib.hid (HB.out.trans (hb.mono HB.out.size))
        have TM := Lib.hid (TM.out.on hb)
        clear hb hO b0 b1
        go_wp2_with (first | (refine wpList_load_row rfl 88 (.tmp 2) rfl w.heap.size rfl 88 _ _ _ BX.out Tryd.underlying88 rfl size_ref5 ?_) | (refine wpList_store_abs rfl 88 (.tmp 4) (.tmp 40) (by rfl) (w.heap.size + 1) #[.slice am2 32 cm2, .slice ao 32 co, .int .i64 cnt] (by rfl) (by rfl) 88 _ BY.out size_ref5 (by rfl) (by simp [Value.oneCell']) ?_; intro W9 hW p9; have HB9 := Lib.hid (hW.below HB.out (Nat.le_succ _)); have TK9 := Lib.hid (TM.out.far' (row_of_wrote hW) (fun q o e h => by have := FM.out q o e; simp at h; omega)); have TV9 := Lib.hid (TN.out.far' (row_of_wrote hW) (fun q o e h => by have := FN.out q o e; simp at h; omega)); clear hW) | (refine wpList_store_slc rfl (.tmp 39) (.tmp 38) rfl w.heap.size 1 ao 32 co (by rfl) (by rfl) BX.out (by simp) ?_; intro u8 hW p; have BX := Lib.hid (show Blk u8 w.heap.size #[.slice am2 32 cm2, .slice ao 32 co, .int .i64 cnt] 88 from p); have BY := Lib.hid (hW.blk BY.out (by simp)); have HB := Lib.hid (hW.below HB.out (Nat.le_refl _)); have TM := Lib.hid (TM.out.far' (row_of_wrote hW) (fun q o e h => by have := FM.out q o e; simp at h; omega)); have TN := Lib.hid (TN.out.far' (row_of_wrote hW) (fun q o e h => by have := FN.out q o e; simp at h; omega)); have b0 := BX.out.cell 0 rfl; have b1 := BX.out.cell 1 rfl; clear hW p))
        refine bodyPost_ret (v := .agg #[.slice am2 32 cm2, .slice ao 32 co, .int .i64 cnt]) ?_ rfl ⟨_, _, _, _, _, _, rfl, ?_, ?_, (fun q o e => Nat.le_trans (by omega) (FM.out q o e)), (fun q o e => Nat.le_trans (by omega) (FN.out q o e)), HB9.out⟩
        · exact results_str rfl _ p9 rfl Tryd.underlying88 rfl size_ref5
        · have h := TK9.out
          rw [show K2 = updK k v t by unfold updK; rw [if_neg HTN.out, HK2.out, HVV.out, HKK.out]] at h
          exact h
        · have h := TV9.out
          rw [show V2 = updV k v t by unfold updV; rw [if_neg HTN.out, HV2.out, HK2.out, HVV.out, HKK.out]; unfold updK; rw [if_neg HTN.out]] at h
          exact h
      · go_simp
        have BI := Blk.new x0 #[.int .u8 1] 5
        have hb := below_one' x0 (.cells #[.int .u8 1] 5)
        generalize World.alloc x0 _ = v5 at *
        have HB := Lib.hid (HB.out.trans (hb.mono HB.out.size))
        have BX := Lib.hid (BX.out.on hb)
        have BY := Lib.hid (BY.out.on hb)
        have TM1 := Lib.hid (TM1.out.on hb)
        have TN1 := Lib.hid (TN1.out.on hb)
        replace BI := Lib.hid BI
        have TI := Lib.hid (by have h : Blk _ _ (barr [1]) _ := BI.out; exact Txt.of_blk h)
        clear hb
        refine hK _ _ (Lib.hid (BX.out.cell 1 rfl)).out (fun _ => ?_)
        clear hK K
        try simp only [Act.put, List.setIfInBounds_toArray, List.set_cons_succ, List.set_cons_zero]
        refine wpAnyH_ready (rs := [1, 6]) (by kernel_rfl) (by simp) ?_
        refine AllReadyH.cons (o := ⟨some 25, .load 28 (.tmp 24), 28, _, _, none⟩) rfl (fun K hK => ?_) (AllReadyH.cons (o := ⟨some 30, .buildSlice 35 3 #[(0, .tmp 27), (1, .tmp 28), (2, .tmp 29)], 35, _, _, none⟩) rfl (fun K hK => ?_) AllReadyH.nil)
        · rw [if_pos (by rfl)]
          refine wp_of_yields (yields_sl (.tmp 24) (by rfl) ⟨w.heap.size, 0, none⟩ (by rfl) (BX.out.cell 0 rfl)) ?_
          refine hK _ _ (Lib.hid (BX.out.cell 1 rfl)).out (fun _ => ?_)
          clear hK K
          try simp only [Act.put, List.setIfInBounds_toArray, List.set_cons_succ, List.set_cons_zero]
          refine wpAnyH_ready (rs := [6]) (by kernel_rfl) (by simp) ?_
          refine AllReadyH.cons (o := ⟨some 30, .buildSlice 35 3 #[(0, .tmp 27), (1, .tmp 28), (2, .tmp 29)], 35, _, _, none⟩) rfl (fun K hK => ?_) AllReadyH.nil
          go_simp
          have BJ := Blk.new v5 #[.slice an 32 cn, .slice (some ⟨x0.heap.size, 0, none⟩) 1 1, .slice a n c] 28
          have hb := below_one' v5 (.cells #[.slice an 32 cn, .slice (some ⟨x0.heap.size, 0, none⟩) 1 1, .slice a n c] 28)
          generalize World.alloc v5 _ = v6 at *
          have HB := Lib.hid (HB.out.trans (hb.mono HB.out.size))
          have BX := Lib.hid (BX.out.on hb)
          have BY := Lib.hid (BY.out.on hb)
          have TM1 := Lib.hid (TM1.out.on hb)
          have TN1 := Lib.hid (TN1.out.on hb)
          have BI := Lib.hid (BI.out.on hb)
          have TI := Lib.hid (TI.out.on hb)
          replace BJ := Lib.hid BJ
          clear hb
          refine hK _ _ (Lib.hid (BX.out.cell 1 rfl)).out (fun _ => ?_)
          clear hK K
          try simp only [Act.put, List.setIfInBounds_toArray, List.set_cons_succ, List.set_cons_zero]
          refine wpAnyH_ready (rs := [7]) (by kernel_rfl) (by simp) ?_
          refine AllReadyH.cons (o := ⟨some 31, .call { callee := .value (.func 36), args := #[.tmp 30], argTypes := #[35] }, 28, _, _, none⟩) rfl (fun K hK => ?_) AllReadyH.nil
          go_simp
          refine (join_blk3 v6 _ _ BJ.out TN1.out TI.out (HX.out.on HB.out) (by have := HTL.out; have := HVL.out; have := HV1L.out; simp only [List.length_cons, List.length_nil]; omega)).mono ?_
          rintro e v7 ⟨aj2, nj2, cj2, rfl, hO, hb⟩
          have HB := Lib.hid (HB.out.trans (hb.mono HB.out.size))
          have BX := Lib.hid (BX.out.on hb)
          have BY := Lib.hid (BY.out.on hb)
          have TM1 := Lib.hid (TM1.out.on hb)
          have TN1 := Lib.hid (TN1.out.on hb)
          have BI := Lib.hid (BI.out.on hb)
          have TI := Lib.hid (TI.out.on hb)
          have BJ := Lib.hid (BJ.out.on hb)
          have TJ := Lib.hid (hO.txt)
          clear hb hO
          refine hK _ _ (Lib.hid (BX.out.cell 1 rfl)).out (fun _ => ?_)
          clear hK K
          try simp only [Act.put, List.setIfInBounds_toArray, List.set_cons_succ, List.set_cons_zero]
          refine wpAnyH_ready (rs := [8]) (by kernel_rfl) (by simp) ?_
          refine AllReadyH.cons (o := ⟨some 32, .call { callee := .value (.func 44), args := #[.tmp 25, .tmp 31], argTypes := #[28, 28] }, 28, _, _, none⟩) rfl (fun K hK => ?_) AllReadyH.nil
          go_simp
          refine (rmac_walk KK _ am _ _ _ nj2 cj2 v7 TM1.out TJ.out (by have := HKL.out; have := HK1L.out; omega) (by have := HTL.out; have := HVL.out; have := HV1L.out; simp only [List.length_append, List.length_cons, List.length_nil]; omega)).mono ?_
          rintro e v8 ⟨am2, cm2, rfl, hO, hb⟩
          rw [show macL _ _ = K2 from HK2.out.symm] at hO
          have FM := Lib.hid (far_of hO (show w.heap.size + 2 ≤ _ by have := BY.out.lt; omega))
          have HB := Lib.hid (HB.out.trans (hb.mono HB.out.size))
          have BX := Lib.hid (BX.out.on hb)
          have BY := Lib.hid (BY.out.on hb)
          have TM1 := Lib.hid (TM1.out.on hb)
          have TN1 := Lib.hid (TN1.out.on hb)
          have BI := Lib.hid (BI.out.on hb)
          have TI := Lib.hid (TI.out.on hb)
          have BJ := Lib.hid (BJ.out.on hb)
          have TJ := Lib.hid (TJ.out.on hb)
          have TM := Lib.hid (hO.txt)
          clear hb hO
          refine hK _ _ (Lib.hid (BX.out.cell 1 rfl)).out (fun _ => ?_)
          clear hK K
          try simp only [Act.put, List.setIfInBounds_toArray, List.set_cons_succ, List.set_cons_zero]
          refine wpAnyH_take (i := 9) (oi := ⟨some 33, .fieldAddr 88 (.tmp 2) 0, _, _, _, none⟩) (v := .pointer (some ⟨w.heap.size, 0, none⟩)) rfl (by kernel_rfl) (by kernel_rfl) (by kernel_rfl) (fun _ _ _ h => h) (Or.inl ⟨by rfl, fun _ _ => by go_simp⟩) (Lib.hid (BX.out.cell 1 rfl)).out ?_
          try simp only [Act.put, List.setIfInBounds_toArray, List.set_cons_succ, List.set_cons_zero]
          refine wpAnyH_ready (rs := [10]) (by kernel_rfl) (by simp) ?_
          refine AllReadyH.cons (o := ⟨none, .store 28 (.tmp 33) (.tmp 32), 0, _, _, none⟩) rfl (fun K hK => ?_) AllReadyH.nil
          rw [if_pos (by rfl)]
          refine wp_store_slc (.tmp 33) (.tmp 32) (by rfl) w.heap.size 0 am2 32 cm2 (by rfl) (by rfl) BX.out (by simp) ?_
          intro xw hW p
          refine hK _ _ (p.cell 1 rfl) (fun _ => ?_)
          clear hK K
          have BX := Lib.hid (show Blk xw w.heap.size #[.slice am2 32 cm2, .slice an 32 cn, .int .i64 cnt] 88 from p)
          have BY := Lib.hid (hW.blk BY.out (by simp))
          have HB := Lib.hid (hW.below HB.out (Nat.le_refl _))
          have TM := Lib.hid (TM.out.far' (row_of_wrote hW) (fun q o e h => by have := FM.out q o e; simp at h; omega))
          have TN1 := Lib.hid (TN1.out.far' (row_of_wrote hW) (fun q o e h => by have := FN1.out q o e; simp at h; omega))
          clear hW p
          refine wpAnyH_done (by kernel_rfl) ?_ _
          have b0 := BX.out.cell 0 rfl
          have b1 := BX.out.cell 1 rfl
          go_wp2_with fail
          refine (rmac_walk K2 VV _ _ _ _ _ _ _ TM.out TN1.out (by have := HK1L.out; omega) (by have := HVL.out; have := HV1L.out; omega)).mono ?_
          rintro e u7 ⟨ao, co, rfl, hO, hb⟩
          rw [← HV2.out] at hO
          have FN := Lib.hid (far_of hO (show w.heap.size + 2 ≤ _ by have := BY.out.lt; omega))
          have TN := Lib.hid hO.txt
          have BX := Lib.hid (BX.out.on hb)
          have BY := Lib.hid (BY.out.on hb)
          have HB := Lib.hid (HB.out.trans (hb.mono HB.out.size))
          have TM := Lib.hid (TM.out.on hb)
          clear hb hO b0 b1
          go_wp2_with (first | (refine wpList_load_row rfl 88 (.tmp 2) rfl w.heap.size rfl 88 _ _ _ BX.out Tryd.underlying88 rfl size_ref5 ?_) | (refine wpList_store_abs rfl 88 (.tmp 4) (.tmp 40) (by rfl) (w.heap.size + 1) #[.slice am2 32 cm2, .slice ao 32 co, .int .i64 cnt] (by rfl) (by rfl) 88 _ BY.out size_ref5 (by rfl) (by simp [Value.oneCell']) ?_; intro W9 hW p9; have HB9 := Lib.hid (hW.below HB.out (Nat.le_succ _)); have TK9 := Lib.hid (TM.out.far' (row_of_wrote hW) (fun q o e h => by have := FM.out q o e; simp at h; omega)); have TV9 := Lib.hid (TN.out.far' (row_of_wrote hW) (fun q o e h => by have := FN.out q o e; simp at h; omega)); clear hW) | (refine wpList_store_slc rfl (.tmp 39) (.tmp 38) rfl w.heap.size 1 ao 32 co (by rfl) (by rfl) BX.out (by simp) ?_; intro u8 hW p; have BX := Lib.hid (show Blk u8 w.heap.size #[.slice am2 32 cm2, .slice ao 32 co, .int .i64 cnt] 88 from p); have BY := Lib.hid (hW.blk BY.out (by simp)); have HB := Lib.hid (hW.below HB.out (Nat.le_refl _)); have TM := Lib.hid (TM.out.far' (row_of_wrote hW) (fun q o e h => by have := FM.out q o e; simp at h; omega)); have TN := Lib.hid (TN.out.far' (row_of_wrote hW) (fun q o e h => by have := FN.out q o e; simp at h; omega)); have b0 := BX.out.cell 0 rfl; have b1 := BX.out.cell 1 rfl; clear hW p))
          refine bodyPost_ret (v := .agg #[.slice am2 32 cm2, .slice ao 32 co, .int .i64 cnt]) ?_ rfl ⟨_, _, _, _, _, _, rfl, ?_, ?_, (fun q o e => Nat.le_trans (by omega) (FM.out q o e)), (fun q o e => Nat.le_trans (by omega) (FN.out q o e)), HB9.out⟩
          · exact results_str rfl _ p9 rfl Tryd.underlying88 rfl size_ref5
          · have h := TK9.out
            rw [show K2 = updK k v t by unfold updK; rw [if_neg HTN.out, HK2.out, HVV.out, HKK.out]] at h
            exact h
          · have h := TV9.out
            rw [show V2 = updV k v t by unfold updV; rw [if_neg HTN.out, HV2.out, HK2.out, HVV.out, HKK.out]; unfold updK; rw [if_neg HTN.out]] at h
            exact h
        · go_simp
          have BJ := Blk.new v5 #[.slice an 32 cn, .slice (some ⟨x0.heap.size, 0, none⟩) 1 1, .slice a n c] 28
          have hb := below_one' v5 (.cells #[.slice an 32 cn, .slice (some ⟨x0.heap.size, 0, none⟩) 1 1, .slice a n c] 28)
          generalize World.alloc v5 _ = v9 at *
          have HB := Lib.hid (HB.out.trans (hb.mono HB.out.size))
          have BX := Lib.hid (BX.out.on hb)
          have BY := Lib.hid (BY.out.on hb)
          have TM1 := Lib.hid (TM1.out.on hb)
          have TN1 := Lib.hid (TN1.out.on hb)
          have BI := Lib.hid (BI.out.on hb)
          have TI := Lib.hid (TI.out.on hb)
          replace BJ := Lib.hid BJ
          clear hb
          refine hK _ _ (Lib.hid (BX.out.cell 1 rfl)).out (fun _ => ?_)
          clear hK K
          try simp only [Act.put, List.setIfInBounds_toArray, List.set_cons_succ, List.set_cons_zero]
          refine wpAnyH_ready (rs := [1, 7]) (by kernel_rfl) (by simp) ?_
          refine AllReadyH.cons (o := ⟨some 25, .load 28 (.tmp 24), 28, _, _, none⟩) rfl (fun K hK => ?_) (AllReadyH.cons (o := ⟨some 31, .call { callee := .value (.func 36), args := #[.tmp 30], argTypes := #[35] }, 28, _, _, none⟩) rfl (fun K hK => ?_) AllReadyH.nil)
          · rw [if_pos (by rfl)]
            refine wp_of_yields (yields_sl (.tmp 24) (by rfl) ⟨w.heap.size, 0, none⟩ (by rfl) (BX.out.cell 0 rfl)) ?_
            refine hK _ _ (Lib.hid (BX.out.cell 1 rfl)).out (fun _ => ?_)
            clear hK K
            try simp only [Act.put, List.setIfInBounds_toArray, List.set_cons_succ, List.set_cons_zero]
            refine wpAnyH_ready (rs := [7]) (by kernel_rfl) (by simp) ?_
            refine AllReadyH.cons (o := ⟨some 31, .call { callee := .value (.func 36), args := #[.tmp 30], argTypes := #[35] }, 28, _, _, none⟩) rfl (fun K hK => ?_) AllReadyH.nil
            go_simp
            refine (join_blk3 v9 _ _ BJ.out TN1.out TI.out (HX.out.on HB.out) (by have := HTL.out; have := HVL.out; have := HV1L.out; simp only [List.length_cons, List.length_nil]; omega)).mono ?_
            rintro e v10 ⟨aj2, nj2, cj2, rfl, hO, hb⟩
            have HB := Lib.hid (HB.out.trans (hb.mono HB.out.size))
            have BX := Lib.hid (BX.out.on hb)
            have BY := Lib.hid (BY.out.on hb)
            have TM1 := Lib.hid (TM1.out.on hb)
            have TN1 := Lib.hid (TN1.out.on hb)
            have BI := Lib.hid (BI.out.on hb)
            have TI := Lib.hid (TI.out.on hb)
            have BJ := Lib.hid (BJ.out.on hb)
            have TJ := Lib.hid (hO.txt)
            clear hb hO
            refine hK _ _ (Lib.hid (BX.out.cell 1 rfl)).out (fun _ => ?_)
            clear hK K
            try simp only [Act.put, List.setIfInBounds_toArray, List.set_cons_succ, List.set_cons_zero]
            refine wpAnyH_ready (rs := [8]) (by kernel_rfl) (by simp) ?_
            refine AllReadyH.cons (o := ⟨some 32, .call { callee := .value (.func 44), args := #[.tmp 25, .tmp 31], argTypes := #[28, 28] }, 28, _, _, none⟩) rfl (fun K hK => ?_) AllReadyH.nil
            go_simp
            refine (rmac_walk KK _ am _ _ _ nj2 cj2 v10 TM1.out TJ.out (by have := HKL.out; have := HK1L.out; omega) (by have := HTL.out; have := HVL.out; have := HV1L.out; simp only [List.length_append, List.length_cons, List.length_nil]; omega)).mono ?_
            rintro e v11 ⟨am2, cm2, rfl, hO, hb⟩
            rw [show macL _ _ = K2 from HK2.out.symm] at hO
            have FM := Lib.hid (far_of hO (show w.heap.size + 2 ≤ _ by have := BY.out.lt; omega))
            have HB := Lib.hid (HB.out.trans (hb.mono HB.out.size))
            have BX := Lib.hid (BX.out.on hb)
            have BY := Lib.hid (BY.out.on hb)
            have TM1 := Lib.hid (TM1.out.on hb)
            have TN1 := Lib.hid (TN1.out.on hb)
            have BI := Lib.hid (BI.out.on hb)
            have TI := Lib.hid (TI.out.on hb)
            have BJ := Lib.hid (BJ.out.on hb)
            have TJ := Lib.hid (TJ.out.on hb)
            have TM := Lib.hid (hO.txt)
            clear hb hO
            refine hK _ _ (Lib.hid (BX.out.cell 1 rfl)).out (fun _ => ?_)
            clear hK K
            try simp only [Act.put, List.setIfInBounds_toArray, List.set_cons_succ, List.set_cons_zero]
            refine wpAnyH_take (i := 9) (oi := ⟨some 33, .fieldAddr 88 (.tmp 2) 0, _, _, _, none⟩) (v := .pointer (some ⟨w.heap.size, 0, none⟩)) rfl (by kernel_rfl) (by kernel_rfl) (by kernel_rfl) (fun _ _ _ h => h) (Or.inl ⟨by rfl, fun _ _ => by go_simp⟩) (Lib.hid (BX.out.cell 1 rfl)).out ?_
            try simp only [Act.put, List.setIfInBounds_toArray, List.set_cons_succ, List.set_cons_zero]
            refine wpAnyH_ready (rs := [10]) (by kernel_rfl) (by simp) ?_
            refine AllReadyH.cons (o := ⟨none, .store 28 (.tmp 33) (.tmp 32), 0, _, _, none⟩) rfl (fun K hK => ?_) AllReadyH.nil
            rw [if_pos (by rfl)]
            refine wp_store_slc (.tmp 33) (.tmp 32) (by rfl) w.heap.size 0 am2 32 cm2 (by rfl) (by rfl) BX.out (by simp) ?_
            intro xw hW p
            refine hK _ _ (p.cell 1 rfl) (fun _ => ?_)
            clear hK K
            have BX := Lib.hid (show Blk xw w.heap.size #[.slice am2 32 cm2, .slice an 32 cn, .int .i64 cnt] 88 from p)
            have BY := Lib.hid (hW.blk BY.out (by simp))
            have HB := Lib.hid (hW.below HB.out (Nat.le_refl _))
            have TM := Lib.hid (TM.out.far' (row_of_wrote hW) (fun q o e h => by have := FM.out q o e; simp at h; omega))
            have TN1 := Lib.hid (TN1.out.far' (row_of_wrote hW) (fun q o e h => by have := FN1.out q o e; simp at h; omega))
            clear hW p
            refine wpAnyH_done (by kernel_rfl) ?_ _
            have b0 := BX.out.cell 0 rfl
            have b1 := BX.out.cell 1 rfl
            go_wp2_with fail
            refine (rmac_walk K2 VV _ _ _ _ _ _ _ TM.out TN1.out (by have := HK1L.out; omega) (by have := HVL.out; have := HV1L.out; omega)).mono ?_
            rintro e u7 ⟨ao, co, rfl, hO, hb⟩
            rw [← HV2.out] at hO
            have FN := Lib.hid (far_of hO (show w.heap.size + 2 ≤ _ by have := BY.out.lt; omega))
            have TN := Lib.hid hO.txt
            have BX := Lib.hid (BX.out.on hb)
            have BY := Lib.hid (BY.out.on hb)
            have HB := Lib.hid (HB.out.trans (hb.mono HB.out.size))
            have TM := Lib.hid (TM.out.on hb)
            clear hb hO b0 b1
            go_wp2_with (first | (refine wpList_load_row rfl 88 (.tmp 2) rfl w.heap.size rfl 88 _ _ _ BX.out Tryd.underlying88 rfl size_ref5 ?_) | (refine wpList_store_abs rfl 88 (.tmp 4) (.tmp 40) (by rfl) (w.heap.size + 1) #[.slice am2 32 cm2, .slice ao 32 co, .int .i64 cnt] (by rfl) (by rfl) 88 _ BY.out size_ref5 (by rfl) (by simp [Value.oneCell']) ?_; intro W9 hW p9; have HB9 := Lib.hid (hW.below HB.out (Nat.le_succ _)); have TK9 := Lib.hid (TM.out.far' (row_of_wrote hW) (fun q o e h => by have := FM.out q o e; simp at h; omega)); have TV9 := Lib.hid (TN.out.far' (row_of_wrote hW) (fun q o e h => by have := FN.out q o e; simp at h; omega)); clear hW) | (refine wpList_store_slc rfl (.tmp 39) (.tmp 38) rfl w.heap.size 1 ao 32 co (by rfl) (by rfl) BX.out (by simp) ?_; intro u8 hW p; have BX := Lib.hid (show Blk u8 w.heap.size #[.slice am2 32 cm2, .slice ao 32 co, .int .i64 cnt] 88 from p); have BY := Lib.hid (hW.blk BY.out (by simp)); have HB := Lib.hid (hW.below HB.out (Nat.le_refl _)); have TM := Lib.hid (TM.out.far' (row_of_wrote hW) (fun q o e h => by have := FM.out q o e; simp at h; omega)); have TN := Lib.hid (TN.out.far' (row_of_wrote hW) (fun q o e h => by have := FN.out q o e; simp at h; omega)); have b0 := BX.out.cell 0 rfl; have b1 := BX.out.cell 1 rfl; clear hW p))
            refine bodyPost_ret (v := .agg #[.slice am2 32 cm2, .slice ao 32 co, .int .i64 cnt]) ?_ rfl ⟨_, _, _, _, _, _, rfl, ?_, ?_, (fun q o e => Nat.le_trans (by omega) (FM.out q o e)), (fun q o e => Nat.le_trans (by omega) (FN.out q o e)), HB9.out⟩
            · exact results_str rfl _ p9 rfl Tryd.underlying88 rfl size_ref5
            · have h := TK9.out
              rw [show K2 = updK k v t by unfold updK; rw [if_neg HTN.out, HK2.out, HVV.out, HKK.out]] at h
              exact h
            · have h := TV9.out
              rw [show V2 = updV k v t by unfold updV; rw [if_neg HTN.out, HV2.out, HK2.out, HVV.out, HKK.out]; unfold updK; rw [if_neg HTN.out]] at h
              exact h
          · go_simp
            refine (join_blk3 v9 _ _ BJ.out TN1.out TI.out (HX.out.on HB.out) (by have := HTL.out; have := HVL.out; have := HV1L.out; simp only [List.length_cons, List.length_nil]; omega)).mono ?_
            rintro e v12 ⟨aj2, nj2, cj2, rfl, hO, hb⟩
            have HB := Lib.hid (HB.out.trans (hb.mono HB.out.size))
            have BX := Lib.hid (BX.out.on hb)
            have BY := Lib.hid (BY.out.on hb)
            have TM1 := Lib.hid (TM1.out.on hb)
            have TN1 := Lib.hid (TN1.out.on hb)
            have BI := Lib.hid (BI.out.on hb)
            have TI := Lib.hid (TI.out.on hb)
            have BJ := Lib.hid (BJ.out.on hb)
            have TJ := Lib.hid (hO.txt)
            clear hb hO
            refine hK _ _ (Lib.hid (BX.out.cell 1 rfl)).out (fun _ => ?_)
            clear hK K
            try simp only [Act.put, List.setIfInBounds_toArray, List.set_cons_succ, List.set_cons_zero]
            refine wpAnyH_ready (rs := [1]) (by kernel_rfl) (by simp) ?_
            refine AllReadyH.cons (o := ⟨some 25, .load 28 (.tmp 24), 28, _, _, none⟩) rfl (fun K hK => ?_) AllReadyH.nil
            rw [if_pos (by rfl)]
            refine wp_of_yields (yields_sl (.tmp 24) (by rfl) ⟨w.heap.size, 0, none⟩ (by rfl) (BX.out.cell 0 rfl)) ?_
            refine hK _ _ (Lib.hid (BX.out.cell 1 rfl)).out (fun _ => ?_)
            clear hK K
            try simp only [Act.put, List.setIfInBounds_toArray, List.set_cons_succ, List.set_cons_zero]
            refine wpAnyH_ready (rs := [8]) (by kernel_rfl) (by simp) ?_
            refine AllReadyH.cons (o := ⟨some 32, .call { callee := .value (.func 44), args := #[.tmp 25, .tmp 31], argTypes := #[28, 28] }, 28, _, _, none⟩) rfl (fun K hK => ?_) AllReadyH.nil
            go_simp
            refine (rmac_walk KK _ am _ _ _ nj2 cj2 v12 TM1.out TJ.out (by have := HKL.out; have := HK1L.out; omega) (by have := HTL.out; have := HVL.out; have := HV1L.out; simp only [List.length_append, List.length_cons, List.length_nil]; omega)).mono ?_
            rintro e v13 ⟨am2, cm2, rfl, hO, hb⟩
            rw [show macL _ _ = K2 from HK2.out.symm] at hO
            have FM := Lib.hid (far_of hO (show w.heap.size + 2 ≤ _ by have := BY.out.lt; omega))
            have HB := Lib.hid (HB.out.trans (hb.mono HB.out.size))
            have BX := Lib.hid (BX.out.on hb)
            have BY := Lib.hid (BY.out.on hb)
            have TM1 := Lib.hid (TM1.out.on hb)
            have TN1 := Lib.hid (TN1.out.on hb)
            have BI := Lib.hid (BI.out.on hb)
            have TI := Lib.hid (TI.out.on hb)
            have BJ := Lib.hid (BJ.out.on hb)
            have TJ := Lib.hid (TJ.out.on hb)
            have TM := Lib.hid (hO.txt)
            clear hb hO
            refine hK _ _ (Lib.hid (BX.out.cell 1 rfl)).out (fun _ => ?_)
            clear hK K
            try simp only [Act.put, List.setIfInBounds_toArray, List.set_cons_succ, List.set_cons_zero]
            refine wpAnyH_take (i := 9) (oi := ⟨some 33, .fieldAddr 88 (.tmp 2) 0, _, _, _, none⟩) (v := .pointer (some ⟨w.heap.size, 0, none⟩)) rfl (by kernel_rfl) (by kernel_rfl) (by kernel_rfl) (fun _ _ _ h => h) (Or.inl ⟨by rfl, fun _ _ => by go_simp⟩) (Lib.hid (BX.out.cell 1 rfl)).out ?_
            try simp only [Act.put, List.setIfInBounds_toArray, List.set_cons_succ, List.set_cons_zero]
            refine wpAnyH_ready (rs := [10]) (by kernel_rfl) (by simp) ?_
            refine AllReadyH.cons (o := ⟨none, .store 28 (.tmp 33) (.tmp 32), 0, _, _, none⟩) rfl (fun K hK => ?_) AllReadyH.nil
            rw [if_pos (by rfl)]
            refine wp_store_slc (.tmp 33) (.tmp 32) (by rfl) w.heap.size 0 am2 32 cm2 (by rfl) (by rfl) BX.out (by simp) ?_
            intro xw hW p
            refine hK _ _ (p.cell 1 rfl) (fun _ => ?_)
            clear hK K
            have BX := Lib.hid (show Blk xw w.heap.size #[.slice am2 32 cm2, .slice an 32 cn, .int .i64 cnt] 88 from p)
            have BY := Lib.hid (hW.blk BY.out (by simp))
            have HB := Lib.hid (hW.below HB.out (Nat.le_refl _))
            have TM := Lib.hid (TM.out.far' (row_of_wrote hW) (fun q o e h => by have := FM.out q o e; simp at h; omega))
            have TN1 := Lib.hid (TN1.out.far' (row_of_wrote hW) (fun q o e h => by have := FN1.out q o e; simp at h; omega))
            clear hW p
            refine wpAnyH_done (by kernel_rfl) ?_ _
            have b0 := BX.out.cell 0 rfl
            have b1 := BX.out.cell 1 rfl
            go_wp2_with fail
            refine (rmac_walk K2 VV _ _ _ _ _ _ _ TM.out TN1.out (by have := HK1L.out; omega) (by have := HVL.out; have := HV1L.out; omega)).mono ?_
            rintro e u7 ⟨ao, co, rfl, hO, hb⟩
            rw [← HV2.out] at hO
            have FN := Lib.hid (far_of hO (show w.heap.size + 2 ≤ _ by have := BY.out.lt; omega))
            have TN := Lib.hid hO.txt
            have BX := Lib.hid (BX.out.on hb)
            have BY := Lib.hid (BY.out.on hb)
            have HB := Lib.hid (HB.out.trans (hb.mono HB.out.size))
            have TM := Lib.hid (TM.out.on hb)
            clear hb hO b0 b1
            go_wp2_with (first | (refine wpList_load_row rfl 88 (.tmp 2) rfl w.heap.size rfl 88 _ _ _ BX.out Tryd.underlying88 rfl size_ref5 ?_) | (refine wpList_store_abs rfl 88 (.tmp 4) (.tmp 40) (by rfl) (w.heap.size + 1) #[.slice am2 32 cm2, .slice ao 32 co, .int .i64 cnt] (by rfl) (by rfl) 88 _ BY.out size_ref5 (by rfl) (by simp [Value.oneCell']) ?_; intro W9 hW p9; have HB9 := Lib.hid (hW.below HB.out (Nat.le_succ _)); have TK9 := Lib.hid (TM.out.far' (row_of_wrote hW) (fun q o e h => by have := FM.out q o e; simp at h; omega)); have TV9 := Lib.hid (TN.out.far' (row_of_wrote hW) (fun q o e h => by have := FN.out q o e; simp at h; omega)); clear hW) | (refine wpList_store_slc rfl (.tmp 39) (.tmp 38) rfl w.heap.size 1 ao 32 co (by rfl) (by rfl) BX.out (by simp) ?_; intro u8 hW p; have BX := Lib.hid (show Blk u8 w.heap.size #[.slice am2 32 cm2, .slice ao 32 co, .int .i64 cnt] 88 from p); have BY := Lib.hid (hW.blk BY.out (by simp)); have HB := Lib.hid (hW.below HB.out (Nat.le_refl _)); have TM := Lib.hid (TM.out.far' (row_of_wrote hW) (fun q o e h => by have := FM.out q o e; simp at h; omega)); have TN := Lib.hid (TN.out.far' (row_of_wrote hW) (fun q o e h => by have := FN.out q o e; simp at h; omega)); have b0 := BX.out.cell 0 rfl; have b1 := BX.out.cell 1 rfl; clear hW p))
            refine bodyPost_ret (v := .agg #[.slice am2 32 cm2, .slice ao 32 co, .int .i64 cnt]) ?_ rfl ⟨_, _, _, _, _, _, rfl, ?_, ?_, (fun q o e => Nat.le_trans (by omega) (FM.out q o e)), (fun q o e => Nat.le_trans (by omega) (FN.out q o e)), HB9.out⟩
            · exact results_str rfl _ p9 rfl Tryd.underlying88 rfl size_ref5
            · have h := TK9.out
              rw [show K2 = updK k v t by unfold updK; rw [if_neg HTN.out, HK2.out, HVV.out, HKK.out]] at h
              exact h
            · have h := TV9.out
              rw [show V2 = updV k v t by unfold updV; rw [if_neg HTN.out, HV2.out, HK2.out, HVV.out, HKK.out]; unfold updK; rw [if_neg HTN.out]] at h
              exact h
    · go_simp
      have BI := Blk.new v0 #[.int .u8 0] 5
      have hb := below_one' v0 (.cells #[.int .u8 0] 5)
      generalize World.alloc v0 _ = v5 at *
      have HB := Lib.hid (HB.out.trans (hb.mono HB.out.size))
      have BX := Lib.hid (BX.out.on hb)
      have BY := Lib.hid (BY.out.on hb)
      replace BI := Lib.hid BI
      have TI := Lib.hid (by have h : Blk _ _ (barr [0]) _ := BI.out; exact Txt.of_blk h)
      clear hb
      refine hK _ _ (Lib.hid (BX.out.cell 1 rfl)).out (fun _ => ?_)
      clear hK K
      try simp only [Act.put, List.setIfInBounds_toArray, List.set_cons_succ, List.set_cons_zero]
      refine wpAnyH_ready (rs := [1, 6]) (by kernel_rfl) (by simp) ?_
      refine AllReadyH.cons (o := ⟨some 6, .load 28 (.tmp 5), 28, _, _, none⟩) rfl (fun K hK => ?_) (AllReadyH.cons (o := ⟨some 11, .buildSlice 35 3 #[(0, .tmp 8), (1, .tmp 9), (2, .tmp 10)], 35, _, _, none⟩) rfl (fun K hK => ?_) AllReadyH.nil)
      · rw [if_pos (by rfl)]
        refine wp_of_yields (yields_sl (.tmp 5) (by rfl) ⟨w.heap.size, 0, none⟩ (by rfl) (BX.out.cell 0 rfl)) ?_
        refine hK _ _ (Lib.hid (BX.out.cell 1 rfl)).out (fun _ => ?_)
        clear hK K
        try simp only [Act.put, List.setIfInBounds_toArray, List.set_cons_succ, List.set_cons_zero]
        refine wpAnyH_ready (rs := [6]) (by kernel_rfl) (by simp) ?_
        refine AllReadyH.cons (o := ⟨some 11, .buildSlice 35 3 #[(0, .tmp 8), (1, .tmp 9), (2, .tmp 10)], 35, _, _, none⟩) rfl (fun K hK => ?_) AllReadyH.nil
        go_simp
        have BJ := Blk.new v5 #[.slice va vn vc, .slice (some ⟨v0.heap.size, 0, none⟩) 1 1, .slice a n c] 28
        have hb := below_one' v5 (.cells #[.slice va vn vc, .slice (some ⟨v0.heap.size, 0, none⟩) 1 1, .slice a n c] 28)
        generalize World.alloc v5 _ = v6 at *
        have HB := Lib.hid (HB.out.trans (hb.mono HB.out.size))
        have BX := Lib.hid (BX.out.on hb)
        have BY := Lib.hid (BY.out.on hb)
        have BI := Lib.hid (BI.out.on hb)
        have TI := Lib.hid (TI.out.on hb)
        replace BJ := Lib.hid BJ
        clear hb
        refine hK _ _ (Lib.hid (BX.out.cell 1 rfl)).out (fun _ => ?_)
        clear hK K
        try simp only [Act.put, List.setIfInBounds_toArray, List.set_cons_succ, List.set_cons_zero]
        refine wpAnyH_ready (rs := [7]) (by kernel_rfl) (by simp) ?_
        refine AllReadyH.cons (o := ⟨some 12, .call { callee := .value (.func 36), args := #[.tmp 11], argTypes := #[35] }, 28, _, _, none⟩) rfl (fun K hK => ?_) AllReadyH.nil
        go_simp
        refine (join_blk3 v6 _ _ BJ.out (HV.out.on HB.out) TI.out (HX.out.on HB.out) (by have := HTL.out; have := HVL.out; have := HV1L.out; simp only [List.length_cons, List.length_nil]; omega)).mono ?_
        rintro e v7 ⟨aj, nj, cj, rfl, hO, hb⟩
        have HB := Lib.hid (HB.out.trans (hb.mono HB.out.size))
        have BX := Lib.hid (BX.out.on hb)
        have BY := Lib.hid (BY.out.on hb)
        have BI := Lib.hid (BI.out.on hb)
        have TI := Lib.hid (TI.out.on hb)
        have BJ := Lib.hid (BJ.out.on hb)
        have TJ := Lib.hid (hO.txt)
        clear hb hO
        refine hK _ _ (Lib.hid (BX.out.cell 1 rfl)).out (fun _ => ?_)
        clear hK K
        try simp only [Act.put, List.setIfInBounds_toArray, List.set_cons_succ, List.set_cons_zero]
        refine wpAnyH_ready (rs := [8]) (by kernel_rfl) (by simp) ?_
        refine AllReadyH.cons (o := ⟨some 13, .call { callee := .value (.func 44), args := #[.tmp 6, .tmp 12], argTypes := #[28, 28] }, 28, _, _, none⟩) rfl (fun K hK => ?_) AllReadyH.nil
        go_simp
        refine (rmac_walk k _ ka _ _ _ nj cj v7 (HK.out.on HB.out) TJ.out (by have := HKL.out; have := HK1L.out; omega) (by have := HTL.out; have := HVL.out; have := HV1L.out; simp only [List.length_append, List.length_cons, List.length_nil]; omega)).mono ?_
        rintro e v8 ⟨am, cm, rfl, hO, hb⟩
        rw [show macL _ _ = KK from HKK.out.symm] at hO
        have FM := Lib.hid (far_of hO (show w.heap.size + 2 ≤ _ by have := BY.out.lt; omega))
        have HB := Lib.hid (HB.out.trans (hb.mono HB.out.size))
        have BX := Lib.hid (BX.out.on hb)
        have BY := Lib.hid (BY.out.on hb)
        have BI := Lib.hid (BI.out.on hb)
        have TI := Lib.hid (TI.out.on hb)
        have BJ := Lib.hid (BJ.out.on hb)
        have TJ := Lib.hid (TJ.out.on hb)
        have TM := Lib.hid (hO.txt)
        clear hb hO
        refine hK _ _ (Lib.hid (BX.out.cell 1 rfl)).out (fun _ => ?_)
        clear hK K
        try simp only [Act.put, List.setIfInBounds_toArray, List.set_cons_succ, List.set_cons_zero]
        refine wpAnyH_take (i := 9) (oi := ⟨some 14, .fieldAddr 88 (.tmp 2) 0, _, _, _, none⟩) (v := .pointer (some ⟨w.heap.size, 0, none⟩)) rfl (by kernel_rfl) (by kernel_rfl) (by kernel_rfl) (fun _ _ _ h => h) (Or.inl ⟨by rfl, fun _ _ => by go_simp⟩) (Lib.hid (BX.out.cell 1 rfl)).out ?_
        try simp only [Act.put, List.setIfInBounds_toArray, List.set_cons_succ, List.set_cons_zero]
        refine wpAnyH_ready (rs := [10]) (by kernel_rfl) (by simp) ?_
        refine AllReadyH.cons (o := ⟨none, .store 28 (.tmp 14) (.tmp 13), 0, _, _, none⟩) rfl (fun K hK => ?_) AllReadyH.nil
        rw [if_pos (by rfl)]
        refine wp_store_slc (.tmp 14) (.tmp 13) (by rfl) w.heap.size 0 am 32 cm (by rfl) (by rfl) BX.out (by simp) ?_
        intro vw hW p
        refine hK _ _ (p.cell 1 rfl) (fun _ => ?_)
        clear hK K
        have BX := Lib.hid (show Blk vw w.heap.size #[.slice am 32 cm, .slice va vn vc, .int .i64 cnt] 88 from p)
        have BY := Lib.hid (hW.blk BY.out (by simp))
        have HB := Lib.hid (hW.below HB.out (Nat.le_refl _))
        have TM := Lib.hid (TM.out.far' (row_of_wrote hW) (fun q o e h => by have := FM.out q o e; simp at h; omega))
        clear hW p
        refine wpAnyH_done (by kernel_rfl) ?_ _
        have b0 := BX.out.cell 0 rfl
        have b1 := BX.out.cell 1 rfl
        go_wp2_with fail
        refine (rmac_walk KK v _ _ _ _ _ _ _ TM.out (HV.out.on HB.out) (by have := HK1L.out; omega) (by have := HVL.out; have := HV1L.out; omega)).mono ?_
        rintro e u3 ⟨an, cn, rfl, hO, hb⟩
        rw [← HVV.out] at hO
        have FN := Lib.hid (far_of hO (show w.heap.size + 2 ≤ _ by have := BY.out.lt; omega))
        have TN := Lib.hid hO.txt
        have BX := Lib.hid (BX.out.on hb)
        have BY := Lib.hid (BY.out.on hb)
        have HB := Lib.hid (HB.out.trans (hb.mono HB.out.size))
        have TM := Lib.hid (TM.out.on hb)
        clear hb hO b0 b1
        go_wp2_with (first | (refine wpList_store_slc rfl (.tmp 20) (.tmp 19) rfl w.heap.size 1 an 32 cn (by rfl) (by rfl) BX.out (by simp) ?_; intro u4 hW p; have BX := Lib.hid (show Blk u4 w.heap.size #[.slice am 32 cm, .slice an 32 cn, .int .i64 cnt] 88 from p); have BY := Lib.hid (hW.blk BY.out (by simp)); have HB := Lib.hid (hW.below HB.out (Nat.le_refl _)); have TM := Lib.hid (TM.out.far' (row_of_wrote hW) (fun q o e h => by have := FM.out q o e; simp at h; omega)); have TN := Lib.hid (TN.out.far' (row_of_wrote hW) (fun q o e h => by have := FN.out q o e; simp at h; omega)); have b0 := BX.out.cell 0 rfl; have b1 := BX.out.cell 1 rfl; clear hW p))
        have TM1 := TM
        have TN1 := TN
        have FM1 := FM
        have FN1 := FN
        clear TM TN FM FN b0 b1
        go_wp2
        refine wp_region_held_drew (S := fun w' => w'.cell? ⟨w.heap.size, 1, none⟩ = some (.slice an 32 cn)) (by kernel_rfl) (BX.out.drew.cell 1 rfl) (fun _ => ?_)
        have hb : Below u4.heap.size u4 (World.drew u4) := (Below.refl _ _).drew
        have HB := Lib.hid (HB.out.trans (hb.mono HB.out.size))
        have BX := Lib.hid (BX.out.on hb)
        have BY := Lib.hid (BY.out.on hb)
        have TM1 := Lib.hid (TM1.out.on hb)
        have TN1 := Lib.hid (TN1.out.on hb)
        clear hb
        generalize World.drew u4 = x0 at *
        try simp only [Act.put, List.setIfInBounds_toArray, List.set_cons_succ, List.set_cons_zero]
        refine wpAnyH_take (i := 0) (oi := ⟨some 24, .fieldAddr 88 (.tmp 2) 0, _, _, _, none⟩) (v := .pointer (some ⟨w.heap.size, 0, none⟩)) rfl (by kernel_rfl) (by kernel_rfl) (by kernel_rfl) (fun _ _ _ h => h) (Or.inl ⟨by rfl, fun _ _ => by go_simp⟩) (Lib.hid (BX.out.cell 1 rfl)).out ?_
        try simp only [Act.put, List.setIfInBounds_toArray, List.set_cons_succ, List.set_cons_zero]
        refine wpAnyH_take (i := 2) (oi := ⟨some 26, .fieldAddr 88 (.tmp 2) 1, _, _, _, none⟩) (v := .pointer (some ⟨w.heap.size, 1, none⟩)) rfl (by kernel_rfl) (by kernel_rfl) (by kernel_rfl) (fun _ _ _ h => h) (Or.inl ⟨by rfl, fun _ _ => by go_simp⟩) (Lib.hid (BX.out.cell 1 rfl)).out ?_
        try simp only [Act.put, List.setIfInBounds_toArray, List.set_cons_succ, List.set_cons_zero]
        refine wpAnyH_take (i := 3) (oi := ⟨some 27, .load 28 (.tmp 26), 28, _, _, none⟩) (v := .slice an 32 cn) rfl (by kernel_rfl) (by kernel_rfl) (by kernel_rfl) (fun _ _ _ h => h) (Or.inl ⟨by rfl, fun vv hvv => yields_sl (.tmp 26) rfl ⟨w.heap.size, 1, none⟩ rfl hvv⟩) (Lib.hid (BX.out.cell 1 rfl)).out ?_
        try simp only [Act.put, List.setIfInBounds_toArray, List.set_cons_succ, List.set_cons_zero]
        refine wpAnyH_take (i := 5) (oi := ⟨some 29, .move (.tmp 1), 28, _, _, none⟩) (v := .slice a n c) rfl (by kernel_rfl) (by kernel_rfl) (by kernel_rfl) (fun _ _ _ h => h) (Or.inl ⟨by rfl, fun _ _ => by go_simp⟩) (Lib.hid (BX.out.cell 1 rfl)).out ?_
        try simp only [Act.put, List.setIfInBounds_toArray, List.set_cons_succ, List.set_cons_zero]
        refine wpAnyH_ready (rs := [1, 4]) (by kernel_rfl) (by simp) ?_
        refine AllReadyH.cons (o := ⟨some 25, .load 28 (.tmp 24), 28, _, _, none⟩) rfl (fun K hK => ?_) (AllReadyH.cons (o := ⟨some 28, .buildSlice 28 1 #[(0, .const (.int .u8 1))], 28, _, _, none⟩) rfl (fun K hK => ?_) AllReadyH.nil)
        · rw [if_pos (by rfl)]
          refine wp_of_yields (yields_sl (.tmp 24) (by rfl) ⟨w.heap.size, 0, none⟩ (by rfl) (BX.out.cell 0 rfl)) ?_
          refine hK _ _ (Lib.hid (BX.out.cell 1 rfl)).out (fun _ => ?_)
          clear hK K
          try simp only [Act.put, List.setIfInBounds_toArray, List.set_cons_succ, List.set_cons_zero]
          refine wpAnyH_ready (rs := [4]) (by kernel_rfl) (by simp) ?_
          refine AllReadyH.cons (o := ⟨some 28, .buildSlice 28 1 #[(0, .const (.int .u8 1))], 28, _, _, none⟩) rfl (fun K hK => ?_) AllReadyH.nil
          go_simp
          have BI := Blk.new x0 #[.int .u8 1] 5
          have hb := below_one' x0 (.cells #[.int .u8 1] 5)
          generalize World.alloc x0 _ = v1 at *
          have HB := Lib.hid (HB.out.trans (hb.mono HB.out.size))
          have BX := Lib.hid (BX.out.on hb)
          have BY := Lib.hid (BY.out.on hb)
          have TM1 := Lib.hid (TM1.out.on hb)
          have TN1 := Lib.hid (TN1.out.on hb)
          replace BI := Lib.hid BI
          have TI := Lib.hid (by have h : Blk _ _ (barr [1]) _ := BI.out; exact Txt.of_blk h)
          clear hb
          refine hK _ _ (Lib.hid (BX.out.cell 1 rfl)).out (fun _ => ?_)
          clear hK K
          try simp only [Act.put, List.setIfInBounds_toArray, List.set_cons_succ, List.set_cons_zero]
          refine wpAnyH_ready (rs := [6]) (by kernel_rfl) (by simp) ?_
          refine AllReadyH.cons (o := ⟨some 30, .buildSlice 35 3 #[(0, .tmp 27), (1, .tmp 28), (2, .tmp 29)], 35, _, _, none⟩) rfl (fun K hK => ?_) AllReadyH.nil
          go_simp
          have BJ := Blk.new v1 #[.slice an 32 cn, .slice (some ⟨x0.heap.size, 0, none⟩) 1 1, .slice a n c] 28
          have hb := below_one' v1 (.cells #[.slice an 32 cn, .slice (some ⟨x0.heap.size, 0, none⟩) 1 1, .slice a n c] 28)
          generalize World.alloc v1 _ = v2 at *
          have HB := Lib.hid (HB.out.trans (hb.mono HB.out.size))
          have BX := Lib.hid (BX.out.on hb)
          have BY := Lib.hid (BY.out.on hb)
          have TM1 := Lib.hid (TM1.out.on hb)
          have TN1 := Lib.hid (TN1.out.on hb)
          have BI := Lib.hid (BI.out.on hb)
          have TI := Lib.hid (TI.out.on hb)
          replace BJ := Lib.hid BJ
          clear hb
          refine hK _ _ (Lib.hid (BX.out.cell 1 rfl)).out (fun _ => ?_)
          clear hK K
          try simp only [Act.put, List.setIfInBounds_toArray, List.set_cons_succ, List.set_cons_zero]
          refine wpAnyH_ready (rs := [7]) (by kernel_rfl) (by simp) ?_
          refine AllReadyH.cons (o := ⟨some 31, .call { callee := .value (.func 36), args := #[.tmp 30], argTypes := #[35] }, 28, _, _, none⟩) rfl (fun K hK => ?_) AllReadyH.nil
          go_simp
          refine (join_blk3 v2 _ _ BJ.out TN1.out TI.out (HX.out.on HB.out) (by have := HTL.out; have := HVL.out; have := HV1L.out; simp only [List.length_cons, List.length_nil]; omega)).mono ?_
          rintro e v3 ⟨aj2, nj2, cj2, rfl, hO, hb⟩
          have HB := Lib.hid (HB.out.trans (hb.mono HB.out.size))
          have BX := Lib.hid (BX.out.on hb)
          have BY := Lib.hid (BY.out.on hb)
          have TM1 := Lib.hid (TM1.out.on hb)
          have TN1 := Lib.hid (TN1.out.on hb)
          have BI := Lib.hid (BI.out.on hb)
          have TI := Lib.hid (TI.out.on hb)
          have BJ := Lib.hid (BJ.out.on hb)
          have TJ := Lib.hid (hO.txt)
          clear hb hO
          refine hK _ _ (Lib.hid (BX.out.cell 1 rfl)).out (fun _ => ?_)
          clear hK K
          try simp only [Act.put, List.setIfInBounds_toArray, List.set_cons_succ, List.set_cons_zero]
          refine wpAnyH_ready (rs := [8]) (by kernel_rfl) (by simp) ?_
          refine AllReadyH.cons (o := ⟨some 32, .call { callee := .value (.func 44), args := #[.tmp 25, .tmp 31], argTypes := #[28, 28] }, 28, _, _, none⟩) rfl (fun K hK => ?_) AllReadyH.nil
          go_simp
          refine (rmac_walk KK _ am _ _ _ nj2 cj2 v3 TM1.out TJ.out (by have := HKL.out; have := HK1L.out; omega) (by have := HTL.out; have := HVL.out; have := HV1L.out; simp only [List.length_append, List.length_cons, List.length_nil]; omega)).mono ?_
          rintro e v4 ⟨am2, cm2, rfl, hO, hb⟩
          rw [show macL _ _ = K2 from HK2.out.symm] at hO
          have FM := Lib.hid (far_of hO (show w.heap.size + 2 ≤ _ by have := BY.out.lt; omega))
          have HB := Lib.hid (HB.out.trans (hb.mono HB.out.size))
          have BX := Lib.hid (BX.out.on hb)
          have BY := Lib.hid (BY.out.on hb)
          have TM1 := Lib.hid (TM1.out.on hb)
          have TN1 := Lib.hid (TN1.out.on hb)
          have BI := Lib.hid (BI.out.on hb)
          have TI := Lib.hid (TI.out.on hb)
          have BJ := Lib.hid (BJ.out.on hb)
          have TJ := Lib.hid (TJ.out.on hb)
          have TM := Lib.hid (hO.txt)
          clear hb hO
          refine hK _ _ (Lib.hid (BX.out.cell 1 rfl)).out (fun _ => ?_)
          clear hK K
          try simp only [Act.put, List.setIfInBounds_toArray, List.set_cons_succ, List.set_cons_zero]
          refine wpAnyH_take (i := 9) (oi := ⟨some 33, .fieldAddr 88 (.tmp 2) 0, _, _, _, none⟩) (v := .pointer (some ⟨w.heap.size, 0, none⟩)) rfl (by kernel_rfl) (by kernel_rfl) (by kernel_rfl) (fun _ _ _ h => h) (Or.inl ⟨by rfl, fun _ _ => by go_simp⟩) (Lib.hid (BX.out.cell 1 rfl)).out ?_
          try simp only [Act.put, List.setIfInBounds_toArray, List.set_cons_succ, List.set_cons_zero]
          refine wpAnyH_ready (rs := [10]) (by kernel_rfl) (by simp) ?_
          refine AllReadyH.cons (o := ⟨none, .store 28 (.tmp 33) (.tmp 32), 0, _, _, none⟩) rfl (fun K hK => ?_) AllReadyH.nil
          rw [if_pos (by rfl)]
          refine wp_store_slc (.tmp 33) (.tmp 32) (by rfl) w.heap.size 0 am2 32 cm2 (by rfl) (by rfl) BX.out (by simp) ?_
          intro xw hW p
          refine hK _ _ (p.cell 1 rfl) (fun _ => ?_)
          clear hK K
          have BX := Lib.hid (show Blk xw w.heap.size #[.slice am2 32 cm2, .slice an 32 cn, .int .i64 cnt] 88 from p)
          have BY := Lib.hid (hW.blk BY.out (by simp))
          have HB := Lib.hid (hW.below HB.out (Nat.le_refl _))
          have TM := Lib.hid (TM.out.far' (row_of_wrote hW) (fun q o e h => by have := FM.out q o e; simp at h; omega))
          have TN1 := Lib.hid (TN1.out.far' (row_of_wrote hW) (fun q o e h => by have := FN1.out q o e; simp at h; omega))
          clear hW p
          refine wpAnyH_done (by kernel_rfl) ?_ _
          have b0 := BX.out.cell 0 rfl
          have b1 := BX.out.cell 1 rfl
          go_wp2_with fail
          refine (rmac_walk K2 VV _ _ _ _ _ _ _ TM.out TN1.out (by have := HK1L.out; omega) (by have := HVL.out; have := HV1L.out; omega)).mono ?_
          rintro e u7 ⟨ao, co, rfl, hO, hb⟩
          rw [← HV2.out] at hO
          have FN := Lib.hid (far_of hO (show w.heap.size + 2 ≤ _ by have := BY.out.lt; omega))
          have TN := Lib.hid hO.txt
          have BX := Lib.hid (BX.out.on hb)
          have BY := Lib.hid (BY.out.on hb)
          have HB := Lib.hid (HB.out.trans (hb.mono HB.out.size))
          have TM := Lib.hid (TM.out.on hb)
          clear hb hO b0 b1
          go_wp2_with (first | (refine wpList_load_row rfl 88 (.tmp 2) rfl w.heap.size rfl 88 _ _ _ BX.out Tryd.underlying88 rfl size_ref5 ?_) | (refine wpList_store_abs rfl 88 (.tmp 4) (.tmp 40) (by rfl) (w.heap.size + 1) #[.slice am2 32 cm2, .slice ao 32 co, .int .i64 cnt] (by rfl) (by rfl) 88 _ BY.out size_ref5 (by rfl) (by simp [Value.oneCell']) ?_; intro W9 hW p9; have HB9 := Lib.hid (hW.below HB.out (Nat.le_succ _)); have TK9 := Lib.hid (TM.out.far' (row_of_wrote hW) (fun q o e h => by have := FM.out q o e; simp at h; omega)); have TV9 := Lib.hid (TN.out.far' (row_of_wrote hW) (fun q o e h => by have := FN.out q o e; simp at h; omega)); clear hW) | (refine wpList_store_slc rfl (.tmp 39) (.tmp 38) rfl w.heap.size 1 ao 32 co (by rfl) (by rfl) BX.out (by simp) ?_; intro u8 hW p; have BX := Lib.hid (show Blk u8 w.heap.size #[.slice am2 32 cm2, .slice ao 32 co, .int .i64 cnt] 88 from p); have BY := Lib.hid (hW.blk BY.out (by simp)); have HB := Lib.hid (hW.below HB.out (Nat.le_refl _)); have TM := Lib.hid (TM.out.far' (row_of_wrote hW) (fun q o e h => by have := FM.out q o e; simp at h; omega)); have TN := Lib.hid (TN.out.far' (row_of_wrote hW) (fun q o e h => by have := FN.out q o e; simp at h; omega)); have b0 := BX.out.cell 0 rfl; have b1 := BX.out.cell 1 rfl; clear hW p))
          refine bodyPost_ret (v := .agg #[.slice am2 32 cm2, .slice ao 32 co, .int .i64 cnt]) ?_ rfl ⟨_, _, _, _, _, _, rfl, ?_, ?_, (fun q o e => Nat.le_trans (by omega) (FM.out q o e)), (fun q o e => Nat.le_trans (by omega) (FN.out q o e)), HB9.out⟩
          · exact results_str rfl _ p9 rfl Tryd.underlying88 rfl size_ref5
          · have h := TK9.out
            rw [show K2 = updK k v t by unfold updK; rw [if_neg HTN.out, HK2.out, HVV.out, HKK.out]] at h
            exact h
          · have h := TV9.out
            rw [show V2 = updV k v t by unfold updV; rw [if_neg HTN.out, HV2.out, HK2.out, HVV.out, HKK.out]; unfold updK; rw [if_neg HTN.out]] at h
            exact h
        · go_simp
          have BI := Blk.new x0 #[.int .u8 1] 5
          have hb := below_one' x0 (.cells #[.int .u8 1] 5)
          generalize World.alloc x0 _ = v5 at *
          have HB := Lib.hid (HB.out.trans (hb.mono HB.out.size))
          have BX := Lib.hid (BX.out.on hb)
          have BY := Lib.hid (BY.out.on hb)
          have TM1 := Lib.hid (TM1.out.on hb)
          have TN1 := Lib.hid (TN1.out.on hb)
          replace BI := Lib.hid BI
          have TI := Lib.hid (by have h : Blk _ _ (barr [1]) _ := BI.out; exact Txt.of_blk h)
          clear hb
          refine hK _ _ (Lib.hid (BX.out.cell 1 rfl)).out (fun _ => ?_)
          clear hK K
          try simp only [Act.put, List.setIfInBounds_toArray, List.set_cons_succ, List.set_cons_zero]
          refine wpAnyH_ready (rs := [1, 6]) (by kernel_rfl) (by simp) ?_
          refine AllReadyH.cons (o := ⟨some 25, .load 28 (.tmp 24), 28, _, _, none⟩) rfl (fun K hK => ?_) (AllReadyH.cons (o := ⟨some 30, .buildSlice 35 3 #[(0, .tmp 27), (1, .tmp 28), (2, .tmp 29)], 35, _, _, none⟩) rfl (fun K hK => ?_) AllReadyH.nil)
          · rw [if_pos (by rfl)]
            refine wp_of_yields (yields_sl (.tmp 24) (by rfl) ⟨w.heap.size, 0, none⟩ (by rfl) (BX.out.cell 0 rfl)) ?_
            refine hK _ _ (Lib.hid (BX.out.cell 1 rfl)).out (fun _ => ?_)
            clear hK K
            try simp only [Act.put, List.setIfInBounds_toArray, List.set_cons_succ, List.set_cons_zero]
            refine wpAnyH_ready (rs := [6]) (by kernel_rfl) (by simp) ?_
            refine AllReadyH.cons (o := ⟨some 30, .buildSlice 35 3 #[(0, .tmp 27), (1, .tmp 28), (2, .tmp 29)], 35, _, _, none⟩) rfl (fun K hK => ?_) AllReadyH.nil
            go_simp
            have BJ := Blk.new v5 #[.slice an 32 cn, .slice (some ⟨x0.heap.size, 0, none⟩) 1 1, .slice a n c] 28
            have hb := below_one' v5 (.cells #[.slice an 32 cn, .slice (some ⟨x0.heap.size, 0, none⟩) 1 1, .slice a n c] 28)
            generalize World.alloc v5 _ = v6 at *
            have HB := Lib.hid (HB.out.trans (hb.mono HB.out.size))
            have BX := Lib.hid (BX.out.on hb)
            have BY := Lib.hid (BY.out.on hb)
            have TM1 := Lib.hid (TM1.out.on hb)
            have TN1 := Lib.hid (TN1.out.on hb)
            have BI := Lib.hid (BI.out.on hb)
            have TI := Lib.hid (TI.out.on hb)
            replace BJ := Lib.hid BJ
            clear hb
            refine hK _ _ (Lib.hid (BX.out.cell 1 rfl)).out (fun _ => ?_)
            clear hK K
            try simp only [Act.put, List.setIfInBounds_toArray, List.set_cons_succ, List.set_cons_zero]
            refine wpAnyH_ready (rs := [7]) (by kernel_rfl) (by simp) ?_
            refine AllReadyH.cons (o := ⟨some 31, .call { callee := .value (.func 36), args := #[.tmp 30], argTypes := #[35] }, 28, _, _, none⟩) rfl (fun K hK => ?_) AllReadyH.nil
            go_simp
            refine (join_blk3 v6 _ _ BJ.out TN1.out TI.out (HX.out.on HB.out) (by have := HTL.out; have := HVL.out; have := HV1L.out; simp only [List.length_cons, List.length_nil]; omega)).mono ?_
            rintro e v7 ⟨aj2, nj2, cj2, rfl, hO, hb⟩
            have HB := Lib.hid (HB.out.trans (hb.mono HB.out.size))
            have BX := Lib.hid (BX.out.on hb)
            have BY := Lib.hid (BY.out.on hb)
            have TM1 := Lib.hid (TM1.out.on hb)
            have TN1 := Lib.hid (TN1.out.on hb)
            have BI := Lib.hid (BI.out.on hb)
            have TI := Lib.hid (TI.out.on hb)
            have BJ := Lib.hid (BJ.out.on hb)
            have TJ := Lib.hid (hO.txt)
            clear hb hO
            refine hK _ _ (Lib.hid (BX.out.cell 1 rfl)).out (fun _ => ?_)
            clear hK K
            try simp only [Act.put, List.setIfInBounds_toArray, List.set_cons_succ, List.set_cons_zero]
            refine wpAnyH_ready (rs := [8]) (by kernel_rfl) (by simp) ?_
            refine AllReadyH.cons (o := ⟨some 32, .call { callee := .value (.func 44), args := #[.tmp 25, .tmp 31], argTypes := #[28, 28] }, 28, _, _, none⟩) rfl (fun K hK => ?_) AllReadyH.nil
            go_simp
            refine (rmac_walk KK _ am _ _ _ nj2 cj2 v7 TM1.out TJ.out (by have := HKL.out; have := HK1L.out; omega) (by have := HTL.out; have := HVL.out; have := HV1L.out; simp only [List.length_append, List.length_cons, List.length_nil]; omega)).mono ?_
            rintro e v8 ⟨am2, cm2, rfl, hO, hb⟩
            rw [show macL _ _ = K2 from HK2.out.symm] at hO
            have FM := Lib.hid (far_of hO (show w.heap.size + 2 ≤ _ by have := BY.out.lt; omega))
            have HB := Lib.hid (HB.out.trans (hb.mono HB.out.size))
            have BX := Lib.hid (BX.out.on hb)
            have BY := Lib.hid (BY.out.on hb)
            have TM1 := Lib.hid (TM1.out.on hb)
            have TN1 := Lib.hid (TN1.out.on hb)
            have BI := Lib.hid (BI.out.on hb)
            have TI := Lib.hid (TI.out.on hb)
            have BJ := Lib.hid (BJ.out.on hb)
            have TJ := Lib.hid (TJ.out.on hb)
            have TM := Lib.hid (hO.txt)
            clear hb hO
            refine hK _ _ (Lib.hid (BX.out.cell 1 rfl)).out (fun _ => ?_)
            clear hK K
            try simp only [Act.put, List.setIfInBounds_toArray, List.set_cons_succ, List.set_cons_zero]
            refine wpAnyH_take (i := 9) (oi := ⟨some 33, .fieldAddr 88 (.tmp 2) 0, _, _, _, none⟩) (v := .pointer (some ⟨w.heap.size, 0, none⟩)) rfl (by kernel_rfl) (by kernel_rfl) (by kernel_rfl) (fun _ _ _ h => h) (Or.inl ⟨by rfl, fun _ _ => by go_simp⟩) (Lib.hid (BX.out.cell 1 rfl)).out ?_
            try simp only [Act.put, List.setIfInBounds_toArray, List.set_cons_succ, List.set_cons_zero]
            refine wpAnyH_ready (rs := [10]) (by kernel_rfl) (by simp) ?_
            refine AllReadyH.cons (o := ⟨none, .store 28 (.tmp 33) (.tmp 32), 0, _, _, none⟩) rfl (fun K hK => ?_) AllReadyH.nil
            rw [if_pos (by rfl)]
            refine wp_store_slc (.tmp 33) (.tmp 32) (by rfl) w.heap.size 0 am2 32 cm2 (by rfl) (by rfl) BX.out (by simp) ?_
            intro xw hW p
            refine hK _ _ (p.cell 1 rfl) (fun _ => ?_)
            clear hK K
            have BX := Lib.hid (show Blk xw w.heap.size #[.slice am2 32 cm2, .slice an 32 cn, .int .i64 cnt] 88 from p)
            have BY := Lib.hid (hW.blk BY.out (by simp))
            have HB := Lib.hid (hW.below HB.out (Nat.le_refl _))
            have TM := Lib.hid (TM.out.far' (row_of_wrote hW) (fun q o e h => by have := FM.out q o e; simp at h; omega))
            have TN1 := Lib.hid (TN1.out.far' (row_of_wrote hW) (fun q o e h => by have := FN1.out q o e; simp at h; omega))
            clear hW p
            refine wpAnyH_done (by kernel_rfl) ?_ _
            have b0 := BX.out.cell 0 rfl
            have b1 := BX.out.cell 1 rfl
            go_wp2_with fail
            refine (rmac_walk K2 VV _ _ _ _ _ _ _ TM.out TN1.out (by have := HK1L.out; omega) (by have := HVL.out; have := HV1L.out; omega)).mono ?_
            rintro e u7 ⟨ao, co, rfl, hO, hb⟩
            rw [← HV2.out] at hO
            have FN := Lib.hid (far_of hO (show w.heap.size + 2 ≤ _ by have := BY.out.lt; omega))
            have TN := Lib.hid hO.txt
            have BX := Lib.hid (BX.out.on hb)
            have BY := Lib.hid (BY.out.on hb)
            have HB := Lib.hid (HB.out.trans (hb.mono HB.out.size))
            have TM := Lib.hid (TM.out.on hb)
            clear hb hO b0 b1
            go_wp2_with (first | (refine wpList_load_row rfl 88 (.tmp 2) rfl w.heap.size rfl 88 _ _ _ BX.out Tryd.underlying88 rfl size_ref5 ?_) | (refine wpList_store_abs rfl 88 (.tmp 4) (.tmp 40) (by rfl) (w.heap.size + 1) #[.slice am2 32 cm2, .slice ao 32 co, .int .i64 cnt] (by rfl) (by rfl) 88 _ BY.out size_ref5 (by rfl) (by simp [Value.oneCell']) ?_; intro W9 hW p9; have HB9 := Lib.hid (hW.below HB.out (Nat.le_succ _)); have TK9 := Lib.hid (TM.out.far' (row_of_wrote hW) (fun q o e h => by have := FM.out q o e; simp at h; omega)); have TV9 := Lib.hid (TN.out.far' (row_of_wrote hW) (fun q o e h => by have := FN.out q o e; simp at h; omega)); clear hW) | (refine wpList_store_slc rfl (.tmp 39) (.tmp 38) rfl w.heap.size 1 ao 32 co (by rfl) (by rfl) BX.out (by simp) ?_; intro u8 hW p; have BX := Lib.hid (show Blk u8 w.heap.size #[.slice am2 32 cm2, .slice ao 32 co, .int .i64 cnt] 88 from p); have BY := Lib.hid (hW.blk BY.out (by simp)); have HB := Lib.hid (hW.below HB.out (Nat.le_refl _)); have TM := Lib.hid (TM.out.far' (row_of_wrote hW) (fun q o e h => by have := FM.out q o e; simp at h; omega)); have TN := Lib.hid (TN.out.far' (row_of_wrote hW) (fun q o e h => by have := FN.out q o e; simp at h; omega)); have b0 := BX.out.cell 0 rfl; have b1 := BX.out.cell 1 rfl; clear hW p))
            refine bodyPost_ret (v := .agg #[.slice am2 32 cm2, .slice ao 32 co, .int .i64 cnt]) ?_ rfl ⟨_, _, _, _, _, _, rfl, ?_, ?_, (fun q o e => Nat.le_trans (by omega) (FM.out q o e)), (fun q o e => Nat.le_trans (by omega) (FN.out q o e)), HB9.out⟩
            · exact results_str rfl _ p9 rfl Tryd.underlying88 rfl size_ref5
            · have h := TK9.out
              rw [show K2 = updK k v t by unfold updK; rw [if_neg HTN.out, HK2.out, HVV.out, HKK.out]] at h
              exact h
            · have h := TV9.out
              rw [show V2 = updV k v t by unfold updV; rw [if_neg HTN.out, HV2.out, HK2.out, HVV.out, HKK.out]; unfold updK; rw [if_neg HTN.out]] at h
              exact h
          · go_simp
            have BJ := Blk.new v5 #[.slice an 32 cn, .slice (some ⟨x0.heap.size, 0, none⟩) 1 1, .slice a n c] 28
            have hb := below_one' v5 (.cells #[.slice an 32 cn, .slice (some ⟨x0.heap.size, 0, none⟩) 1 1, .slice a n c] 28)
            generalize World.alloc v5 _ = v9 at *
            have HB := Lib.hid (HB.out.trans (hb.mono HB.out.size))
            have BX := Lib.hid (BX.out.on hb)
            have BY := Lib.hid (BY.out.on hb)
            have TM1 := Lib.hid (TM1.out.on hb)
            have TN1 := Lib.hid (TN1.out.on hb)
            have BI := Lib.hid (BI.out.on hb)
            have TI := Lib.hid (TI.out.on hb)
            replace BJ := Lib.hid BJ
            clear hb
            refine hK _ _ (Lib.hid (BX.out.cell 1 rfl)).out (fun _ => ?_)
            clear hK K
            try simp only [Act.put, List.setIfInBounds_toArray, List.set_cons_succ, List.set_cons_zero]
            refine wpAnyH_ready (rs := [1, 7]) (by kernel_rfl) (by simp) ?_
            refine AllReadyH.cons (o := ⟨some 25, .load 28 (.tmp 24), 28, _, _, none⟩) rfl (fun K hK => ?_) (AllReadyH.cons (o := ⟨some 31, .call { callee := .value (.func 36), args := #[.tmp 30], argTypes := #[35] }, 28, _, _, none⟩) rfl (fun K hK => ?_) AllReadyH.nil)
            · rw [if_pos (by rfl)]
              refine wp_of_yields (yields_sl (.tmp 24) (by rfl) ⟨w.heap.size, 0, none⟩ (by rfl) (BX.out.cell 0 rfl)) ?_
              refine hK _ _ (Lib.hid (BX.out.cell 1 rfl)).out (fun _ => ?_)
              clear hK K
              try simp only [Act.put, List.setIfInBounds_toArray, List.set_cons_succ, List.set_cons_zero]
              refine wpAnyH_ready (rs := [7]) (by kernel_rfl) (by simp) ?_
              refine AllReadyH.cons (o := ⟨some 31, .call { callee := .value (.func 36), args := #[.tmp 30], argTypes := #[35] }, 28, _, _, none⟩) rfl (fun K hK => ?_) AllReadyH.nil
              go_simp
              refine (join_blk3 v9 _ _ BJ.out TN1.out TI.out (HX.out.on HB.out) (by have := HTL.out; have := HVL.out; have := HV1L.out; simp only [List.length_cons, List.length_nil]; omega)).mono ?_
              rintro e v10 ⟨aj2, nj2, cj2, rfl, hO, hb⟩
              have HB := Lib.hid (HB.out.trans (hb.mono HB.out.size))
              have BX := Lib.hid (BX.out.on hb)
              have BY := Lib.hid (BY.out.on hb)
              have TM1 := Lib.hid (TM1.out.on hb)
              have TN1 := Lib.hid (TN1.out.on hb)
              have BI := Lib.hid (BI.out.on hb)
              have TI := Lib.hid (TI.out.on hb)
              have BJ := Lib.hid (BJ.out.on hb)
              have TJ := Lib.hid (hO.txt)
              clear hb hO
              refine hK _ _ (Lib.hid (BX.out.cell 1 rfl)).out (fun _ => ?_)
              clear hK K
              try simp only [Act.put, List.setIfInBounds_toArray, List.set_cons_succ, List.set_cons_zero]
              refine wpAnyH_ready (rs := [8]) (by kernel_rfl) (by simp) ?_
              refine AllReadyH.cons (o := ⟨some 32, .call { callee := .value (.func 44), args := #[.tmp 25, .tmp 31], argTypes := #[28, 28] }, 28, _, _, none⟩) rfl (fun K hK => ?_) AllReadyH.nil
              go_simp
              refine (rmac_walk KK _ am _ _ _ nj2 cj2 v10 TM1.out TJ.out (by have := HKL.out; have := HK1L.out; omega) (by have := HTL.out; have := HVL.out; have := HV1L.out; simp only [List.length_append, List.length_cons, List.length_nil]; omega)).mono ?_
              rintro e v11 ⟨am2, cm2, rfl, hO, hb⟩
              rw [show macL _ _ = K2 from HK2.out.symm] at hO
              have FM := Lib.hid (far_of hO (show w.heap.size + 2 ≤ _ by have := BY.out.lt; omega))
              have HB := Lib.hid (HB.out.trans (hb.mono HB.out.size))
              have BX := Lib.hid (BX.out.on hb)
              have BY := Lib.hid (BY.out.on hb)
              have TM1 := Lib.hid (TM1.out.on hb)
              have TN1 := Lib.hid (TN1.out.on hb)
              have BI := Lib.hid (BI.out.on hb)
              have TI := Lib.hid (TI.out.on hb)
              have BJ := Lib.hid (BJ.out.on hb)
              have TJ := Lib.hid (TJ.out.on hb)
              have TM := Lib.hid (hO.txt)
              clear hb hO
              refine hK _ _ (Lib.hid (BX.out.cell 1 rfl)).out (fun _ => ?_)
              clear hK K
              try simp only [Act.put, List.setIfInBounds_toArray, List.set_cons_succ, List.set_cons_zero]
              refine wpAnyH_take (i := 9) (oi := ⟨some 33, .fieldAddr 88 (.tmp 2) 0, _, _, _, none⟩) (v := .pointer (some ⟨w.heap.size, 0, none⟩)) rfl (by kernel_rfl) (by kernel_rfl) (by kernel_rfl) (fun _ _ _ h => h) (Or.inl ⟨by rfl, fun _ _ => by go_simp⟩) (Lib.hid (BX.out.cell 1 rfl)).out ?_
              try simp only [Act.put, List.setIfInBounds_toArray, List.set_cons_succ, List.set_cons_zero]
              refine wpAnyH_ready (rs := [10]) (by kernel_rfl) (by simp) ?_
              refine AllReadyH.cons (o := ⟨none, .store 28 (.tmp 33) (.tmp 32), 0, _, _, none⟩) rfl (fun K hK => ?_) AllReadyH.nil
              rw [if_pos (by rfl)]
              refine wp_store_slc (.tmp 33) (.tmp 32) (by rfl) w.heap.size 0 am2 32 cm2 (by rfl) (by rfl) BX.out (by simp) ?_
              intro xw hW p
              refine hK _ _ (p.cell 1 rfl) (fun _ => ?_)
              clear hK K
              have BX := Lib.hid (show Blk xw w.heap.size #[.slice am2 32 cm2, .slice an 32 cn, .int .i64 cnt] 88 from p)
              have BY := Lib.hid (hW.blk BY.out (by simp))
              have HB := Lib.hid (hW.below HB.out (Nat.le_refl _))
              have TM := Lib.hid (TM.out.far' (row_of_wrote hW) (fun q o e h => by have := FM.out q o e; simp at h; omega))
              have TN1 := Lib.hid (TN1.out.far' (row_of_wrote hW) (fun q o e h => by have := FN1.out q o e; simp at h; omega))
              clear hW p
              refine wpAnyH_done (by kernel_rfl) ?_ _
              have b0 := BX.out.cell 0 rfl
              have b1 := BX.out.cell 1 rfl
              go_wp2_with fail
              refine (rmac_walk K2 VV _ _ _ _ _ _ _ TM.out TN1.out (by have := HK1L.out; omega) (by have := HVL.out; have := HV1L.out; omega)).mono ?_
              rintro e u7 ⟨ao, co, rfl, hO, hb⟩
              rw [← HV2.out] at hO
              have FN := Lib.hid (far_of hO (show w.heap.size + 2 ≤ _ by have := BY.out.lt; omega))
              have TN := Lib.hid hO.txt
              have BX := Lib.hid (BX.out.on hb)
              have BY := Lib.hid (BY.out.on hb)
              have HB := Lib.hid (HB.out.trans (hb.mono HB.out.size))
              have TM := Lib.hid (TM.out.on hb)
              clear hb hO b0 b1
              go_wp2_with (first | (refine wpList_load_row rfl 88 (.tmp 2) rfl w.heap.size rfl 88 _ _ _ BX.out Tryd.underlying88 rfl size_ref5 ?_) | (refine wpList_store_abs rfl 88 (.tmp 4) (.tmp 40) (by rfl) (w.heap.size + 1) #[.slice am2 32 cm2, .slice ao 32 co, .int .i64 cnt] (by rfl) (by rfl) 88 _ BY.out size_ref5 (by rfl) (by simp [Value.oneCell']) ?_; intro W9 hW p9; have HB9 := Lib.hid (hW.below HB.out (Nat.le_succ _)); have TK9 := Lib.hid (TM.out.far' (row_of_wrote hW) (fun q o e h => by have := FM.out q o e; simp at h; omega)); have TV9 := Lib.hid (TN.out.far' (row_of_wrote hW) (fun q o e h => by have := FN.out q o e; simp at h; omega)); clear hW) | (refine wpList_store_slc rfl (.tmp 39) (.tmp 38) rfl w.heap.size 1 ao 32 co (by rfl) (by rfl) BX.out (by simp) ?_; intro u8 hW p; have BX := Lib.hid (show Blk u8 w.heap.size #[.slice am2 32 cm2, .slice ao 32 co, .int .i64 cnt] 88 from p); have BY := Lib.hid (hW.blk BY.out (by simp)); have HB := Lib.hid (hW.below HB.out (Nat.le_refl _)); have TM := Lib.hid (TM.out.far' (row_of_wrote hW) (fun q o e h => by have := FM.out q o e; simp at h; omega)); have TN := Lib.hid (TN.out.far' (row_of_wrote hW) (fun q o e h => by have := FN.out q o e; simp at h; omega)); have b0 := BX.out.cell 0 rfl; have b1 := BX.out.cell 1 rfl; clear hW p))
              refine bodyPost_ret (v := .agg #[.slice am2 32 cm2, .slice ao 32 co, .int .i64 cnt]) ?_ rfl ⟨_, _, _, _, _, _, rfl, ?_, ?_, (fun q o e => Nat.le_trans (by omega) (FM.out q o e)), (fun q o e => Nat.le_trans (by omega) (FN.out q o e)), HB9.out⟩
              · exact results_str rfl _ p9 rfl Tryd.underlying88 rfl size_ref5
              · have h := TK9.out
                rw [show K2 = updK k v t by unfold updK; rw [if_neg HTN.out, HK2.out, HVV.out, HKK.out]] at h
                exact h
              · have h := TV9.out
                rw [show V2 = updV k v t by unfold updV; rw [if_neg HTN.out, HV2.out, HK2.out, HVV.out, HKK.out]; unfold updK; rw [if_neg HTN.out]] at h
                exact h
            · go_simp
              refine (join_blk3 v9 _ _ BJ.out TN1.out TI.out (HX.out.on HB.out) (by have := HTL.out; have := HVL.out; have := HV1L.out; simp only [List.length_cons, List.length_nil]; omega)).mono ?_
              rintro e v12 ⟨aj2, nj2, cj2, rfl, hO, hb⟩
              have HB := Lib.hid (HB.out.trans (hb.mono HB.out.size))
              have BX := Lib.hid (BX.out.on hb)
              have BY := Lib.hid (BY.out.on hb)
              have TM1 := Lib.hid (TM1.out.on hb)
              have TN1 := Lib.hid (TN1.out.on hb)
              have BI := Lib.hid (BI.out.on hb)
              have TI := Lib.hid (TI.out.on hb)
              have BJ := Lib.hid (BJ.out.on hb)
              have TJ := Lib.hid (hO.txt)
              clear hb hO
              refine hK _ _ (Lib.hid (BX.out.cell 1 rfl)).out (fun _ => ?_)
              clear hK K
              try simp only [Act.put, List.setIfInBounds_toArray, List.set_cons_succ, List.set_cons_zero]
              refine wpAnyH_ready (rs := [1]) (by kernel_rfl) (by simp) ?_
              refine AllReadyH.cons (o := ⟨some 25, .load 28 (.tmp 24), 28, _, _, none⟩) rfl (fun K hK => ?_) AllReadyH.nil
              rw [if_pos (by rfl)]
              refine wp_of_yields (yields_sl (.tmp 24) (by rfl) ⟨w.heap.size, 0, none⟩ (by rfl) (BX.out.cell 0 rfl)) ?_
              refine hK _ _ (Lib.hid (BX.out.cell 1 rfl)).out (fun _ => ?_)
              clear hK K
              try simp only [Act.put, List.setIfInBounds_toArray, List.set_cons_succ, List.set_cons_zero]
              refine wpAnyH_ready (rs := [8]) (by kernel_rfl) (by simp) ?_
              refine AllReadyH.cons (o := ⟨some 32, .call { callee := .value (.func 44), args := #[.tmp 25, .tmp 31], argTypes := #[28, 28] }, 28, _, _, none⟩) rfl (fun K hK => ?_) AllReadyH.nil
              go_simp
              refine (rmac_walk KK _ am _ _ _ nj2 cj2 v12 TM1.out TJ.out (by have := HKL.out; have := HK1L.out; omega) (by have := HTL.out; have := HVL.out; have := HV1L.out; simp only [List.length_append, List.length_cons, List.length_nil]; omega)).mono ?_
              rintro e v13 ⟨am2, cm2, rfl, hO, hb⟩
              rw [show macL _ _ = K2 from HK2.out.symm] at hO
              have FM := Lib.hid (far_of hO (show w.heap.size + 2 ≤ _ by have := BY.out.lt; omega))
              have HB := Lib.hid (HB.out.trans (hb.mono HB.out.size))
              have BX := Lib.hid (BX.out.on hb)
              have BY := Lib.hid (BY.out.on hb)
              have TM1 := Lib.hid (TM1.out.on hb)
              have TN1 := Lib.hid (TN1.out.on hb)
              have BI := Lib.hid (BI.out.on hb)
              have TI := Lib.hid (TI.out.on hb)
              have BJ := Lib.hid (BJ.out.on hb)
              have TJ := Lib.hid (TJ.out.on hb)
              have TM := Lib.hid (hO.txt)
              clear hb hO
              refine hK _ _ (Lib.hid (BX.out.cell 1 rfl)).out (fun _ => ?_)
              clear hK K
              try simp only [Act.put, List.setIfInBounds_toArray, List.set_cons_succ, List.set_cons_zero]
              refine wpAnyH_take (i := 9) (oi := ⟨some 33, .fieldAddr 88 (.tmp 2) 0, _, _, _, none⟩) (v := .pointer (some ⟨w.heap.size, 0, none⟩)) rfl (by kernel_rfl) (by kernel_rfl) (by kernel_rfl) (fun _ _ _ h => h) (Or.inl ⟨by rfl, fun _ _ => by go_simp⟩) (Lib.hid (BX.out.cell 1 rfl)).out ?_
              try simp only [Act.put, List.setIfInBounds_toArray, List.set_cons_succ, List.set_cons_zero]
              refine wpAnyH_ready (rs := [10]) (by kernel_rfl) (by simp) ?_
              refine AllReadyH.cons (o := ⟨none, .store 28 (.tmp 33) (.tmp 32), 0, _, _, none⟩) rfl (fun K hK => ?_) AllReadyH.nil
              rw [if_pos (by rfl)]
              refine wp_store_slc (.tmp 33) (.tmp 32) (by rfl) w.heap.size 0 am2 32 cm2 (by rfl) (by rfl) BX.out (by simp) ?_
              intro xw hW p
              refine hK _ _ (p.cell 1 rfl) (fun _ => ?_)
              clear hK K
              have BX := Lib.hid (show Blk xw w.heap.size #[.slice am2 32 cm2, .slice an 32 cn, .int .i64 cnt] 88 from p)
              have BY := Lib.hid (hW.blk BY.out (by simp))
              have HB := Lib.hid (hW.below HB.out (Nat.le_refl _))
              have TM := Lib.hid (TM.out.far' (row_of_wrote hW) (fun q o e h => by have := FM.out q o e; simp at h; omega))
              have TN1 := Lib.hid (TN1.out.far' (row_of_wrote hW) (fun q o e h => by have := FN1.out q o e; simp at h; omega))
              clear hW p
              refine wpAnyH_done (by kernel_rfl) ?_ _
              have b0 := BX.out.cell 0 rfl
              have b1 := BX.out.cell 1 rfl
              go_wp2_with fail
              refine (rmac_walk K2 VV _ _ _ _ _ _ _ TM.out TN1.out (by have := HK1L.out; omega) (by have := HVL.out; have := HV1L.out; omega)).mono ?_
              rintro e u7 ⟨ao, co, rfl, hO, hb⟩
              rw [← HV2.out] at hO
              have FN := Lib.hid (far_of hO (show w.heap.size + 2 ≤ _ by have := BY.out.lt; omega))
              have TN := Lib.hid hO.txt
              have BX := Lib.hid (BX.out.on hb)
              have BY := Lib.hid (BY.out.on hb)
              have HB := Lib.hid (HB.out.trans (hb.mono HB.out.size))
              have TM := Lib.hid (TM.out.on hb)
              clear hb hO b0 b1
              go_wp2_with (first | (refine wpList_load_row rfl 88 (.tmp 2) rfl w.heap.size rfl 88 _ _ _ BX.out Tryd.underlying88 rfl size_ref5 ?_) | (refine wpList_store_abs rfl 88 (.tmp 4) (.tmp 40) (by rfl) (w.heap.size + 1) #[.slice am2 32 cm2, .slice ao 32 co, .int .i64 cnt] (by rfl) (by rfl) 88 _ BY.out size_ref5 (by rfl) (by simp [Value.oneCell']) ?_; intro W9 hW p9; have HB9 := Lib.hid (hW.below HB.out (Nat.le_succ _)); have TK9 := Lib.hid (TM.out.far' (row_of_wrote hW) (fun q o e h => by have := FM.out q o e; simp at h; omega)); have TV9 := Lib.hid (TN.out.far' (row_of_wrote hW) (fun q o e h => by have := FN.out q o e; simp at h; omega)); clear hW) | (refine wpList_store_slc rfl (.tmp 39) (.tmp 38) rfl w.heap.size 1 ao 32 co (by rfl) (by rfl) BX.out (by simp) ?_; intro u8 hW p; have BX := Lib.hid (show Blk u8 w.heap.size #[.slice am2 32 cm2, .slice ao 32 co, .int .i64 cnt] 88 from p); have BY := Lib.hid (hW.blk BY.out (by simp)); have HB := Lib.hid (hW.below HB.out (Nat.le_refl _)); have TM := Lib.hid (TM.out.far' (row_of_wrote hW) (fun q o e h => by have := FM.out q o e; simp at h; omega)); have TN := Lib.hid (TN.out.far' (row_of_wrote hW) (fun q o e h => by have := FN.out q o e; simp at h; omega)); have b0 := BX.out.cell 0 rfl; have b1 := BX.out.cell 1 rfl; clear hW p))
              refine bodyPost_ret (v := .agg #[.slice am2 32 cm2, .slice ao 32 co, .int .i64 cnt]) ?_ rfl ⟨_, _, _, _, _, _, rfl, ?_, ?_, (fun q o e => Nat.le_trans (by omega) (FM.out q o e)), (fun q o e => Nat.le_trans (by omega) (FN.out q o e)), HB9.out⟩
              · exact results_str rfl _ p9 rfl Tryd.underlying88 rfl size_ref5
              · have h := TK9.out
                rw [show K2 = updK k v t by unfold updK; rw [if_neg HTN.out, HK2.out, HVV.out, HKK.out]] at h
                exact h
              · have h := TV9.out
                rw [show V2 = updV k v t by unfold updV; rw [if_neg HTN.out, HV2.out, HK2.out, HVV.out, HKK.out]; unfold updK; rw [if_neg HTN.out]] at h
                exact h
      · go_simp
        have BJ := Blk.new v5 #[.slice va vn vc, .slice (some ⟨v0.heap.size, 0, none⟩) 1 1, .slice a n c] 28
        have hb := below_one' v5 (.cells #[.slice va vn vc, .slice (some ⟨v0.heap.size, 0, none⟩) 1 1, .slice a n c] 28)
        generalize World.alloc v5 _ = v9 at *
        have HB := Lib.hid (HB.out.trans (hb.mono HB.out.size))
        have BX := Lib.hid (BX.out.on hb)
        have BY := Lib.hid (BY.out.on hb)
        have BI := Lib.hid (BI.out.on hb)
        have TI := Lib.hid (TI.out.on hb)
        replace BJ := Lib.hid BJ
        clear hb
        refine hK _ _ (Lib.hid (BX.out.cell 1 rfl)).out (fun _ => ?_)
        clear hK K
        try simp only [Act.put, List.setIfInBounds_toArray, List.set_cons_succ, List.set_cons_zero]
        refine wpAnyH_ready (rs := [1, 7]) (by kernel_rfl) (by simp) ?_
        refine AllReadyH.cons (o := ⟨some 6, .load 28 (.tmp 5), 28, _, _, none⟩) rfl (fun K hK => ?_) (AllReadyH.cons (o := ⟨some 12, .call { callee := .value (.func 36), args := #[.tmp 11], argTypes := #[35] }, 28, _, _, none⟩) rfl (fun K hK => ?_) AllReadyH.nil)
        · rw [if_pos (by rfl)]
          refine wp_of_yields (yields_sl (.tmp 5) (by rfl) ⟨w.heap.size, 0, none⟩ (by rfl) (BX.out.cell 0 rfl)) ?_
          refine hK _ _ (Lib.hid (BX.out.cell 1 rfl)).out (fun _ => ?_)
          clear hK K
          try simp only [Act.put, List.setIfInBounds_toArray, List.set_cons_succ, List.set_cons_zero]
          refine wpAnyH_ready (rs := [7]) (by kernel_rfl) (by simp) ?_
          refine AllReadyH.cons (o := ⟨some 12, .call { callee := .value (.func 36), args := #[.tmp 11], argTypes := #[35] }, 28, _, _, none⟩) rfl (fun K hK => ?_) AllReadyH.nil
          go_simp
          refine (join_blk3 v9 _ _ BJ.out (HV.out.on HB.out) TI.out (HX.out.on HB.out) (by have := HTL.out; have := HVL.out; have := HV1L.out; simp only [List.length_cons, List.length_nil]; omega)).mono ?_
          rintro e v10 ⟨aj, nj, cj, rfl, hO, hb⟩
          have HB := Lib.hid (HB.out.trans (hb.mono HB.out.size))
          have BX := Lib.hid (BX.out.on hb)
          have BY := Lib.hid (BY.out.on hb)
          have BI := Lib.hid (BI.out.on hb)
          have TI := Lib.hid (TI.out.on hb)
          have BJ := Lib.hid (BJ.out.on hb)
          have TJ := Lib.hid (hO.txt)
          clear hb hO
          refine hK _ _ (Lib.hid (BX.out.cell 1 rfl)).out (fun _ => ?_)
          clear hK K
          try simp only [Act.put, List.setIfInBounds_toArray, List.set_cons_succ, List.set_cons_zero]
          refine wpAnyH_ready (rs := [8]) (by kernel_rfl) (by simp) ?_
          refine AllReadyH.cons (o := ⟨some 13, .call { callee := .value (.func 44), args := #[.tmp 6, .tmp 12], argTypes := #[28, 28] }, 28, _, _, none⟩) rfl (fun K hK => ?_) AllReadyH.nil
          go_simp
          refine (rmac_walk k _ ka _ _ _ nj cj v10 (HK.out.on HB.out) TJ.out (by have := HKL.out; have := HK1L.out; omega) (by have := HTL.out; have := HVL.out; have := HV1L.out; simp only [List.length_append, List.length_cons, List.length_nil]; omega)).mono ?_
          rintro e v11 ⟨am, cm, rfl, hO, hb⟩
          rw [show macL _ _ = KK from HKK.out.symm] at hO
          have FM := Lib.hid (far_of hO (show w.heap.size + 2 ≤ _ by have := BY.out.lt; omega))
          have HB := Lib.hid (HB.out.trans (hb.mono HB.out.size))
          have BX := Lib.hid (BX.out.on hb)
          have BY := Lib.hid (BY.out.on hb)
          have BI := Lib.hid (BI.out.on hb)
          have TI := Lib.hid (TI.out.on hb)
          have BJ := Lib.hid (BJ.out.on hb)
          have TJ := Lib.hid (TJ.out.on hb)
          have TM := Lib.hid (hO.txt)
          clear hb hO
          refine hK _ _ (Lib.hid (BX.out.cell 1 rfl)).out (fun _ => ?_)
          clear hK K
          try simp only [Act.put, List.setIfInBounds_toArray, List.set_cons_succ, List.set_cons_zero]
          refine wpAnyH_take (i := 9) (oi := ⟨some 14, .fieldAddr 88 (.tmp 2) 0, _, _, _, none⟩) (v := .pointer (some ⟨w.heap.size, 0, none⟩)) rfl (by kernel_rfl) (by kernel_rfl) (by kernel_rfl) (fun _ _ _ h => h) (Or.inl ⟨by rfl, fun _ _ => by go_simp⟩) (Lib.hid (BX.out.cell 1 rfl)).out ?_
          try simp only [Act.put, List.setIfInBounds_toArray, List.set_cons_succ, List.set_cons_zero]
          refine wpAnyH_ready (rs := [10]) (by kernel_rfl) (by simp) ?_
          refine AllReadyH.cons (o := ⟨none, .store 28 (.tmp 14) (.tmp 13), 0, _, _, none⟩) rfl (fun K hK => ?_) AllReadyH.nil
          rw [if_pos (by rfl)]
          refine wp_store_slc (.tmp 14) (.tmp 13) (by rfl) w.heap.size 0 am 32 cm (by rfl) (by rfl) BX.out (by simp) ?_
          intro vw hW p
          refine hK _ _ (p.cell 1 rfl) (fun _ => ?_)
          clear hK K
          have BX := Lib.hid (show Blk vw w.heap.size #[.slice am 32 cm, .slice va vn vc, .int .i64 cnt] 88 from p)
          have BY := Lib.hid (hW.blk BY.out (by simp))
          have HB := Lib.hid (hW.below HB.out (Nat.le_refl _))
          have TM := Lib.hid (TM.out.far' (row_of_wrote hW) (fun q o e h => by have := FM.out q o e; simp at h; omega))
          clear hW p
          refine wpAnyH_done (by kernel_rfl) ?_ _
          have b0 := BX.out.cell 0 rfl
          have b1 := BX.out.cell 1 rfl
          go_wp2_with fail
          refine (rmac_walk KK v _ _ _ _ _ _ _ TM.out (HV.out.on HB.out) (by have := HK1L.out; omega) (by have := HVL.out; have := HV1L.out; omega)).mono ?_
          rintro e u3 ⟨an, cn, rfl, hO, hb⟩
          rw [← HVV.out] at hO
          have FN := Lib.hid (far_of hO (show w.heap.size + 2 ≤ _ by have := BY.out.lt; omega))
          have TN := Lib.hid hO.txt
          have BX := Lib.hid (BX.out.on hb)
          have BY := Lib.hid (BY.out.on hb)
          have HB := Lib.hid (HB.out.trans (hb.mono HB.out.size))
          have TM := Lib.hid (TM.out.on hb)
          clear hb hO b0 b1
          go_wp2_with (first | (refine wpList_store_slc rfl (.tmp 20) (.tmp 19) rfl w.heap.size 1 an 32 cn (by rfl) (by rfl) BX.out (by simp) ?_; intro u4 hW p; have BX := Lib.hid (show Blk u4 w.heap.size #[.slice am 32 cm, .slice an 32 cn, .int .i64 cnt] 88 from p); have BY := Lib.hid (hW.blk BY.out (by simp)); have HB := Lib.hid (hW.below HB.out (Nat.le_refl _)); have TM := Lib.hid (TM.out.far' (row_of_wrote hW) (fun q o e h => by have := FM.out q o e; simp at h; omega)); have TN := Lib.hid (TN.out.far' (row_of_wrote hW) (fun q o e h => by have := FN.out q o e; simp at h; omega)); have b0 := BX.out.cell 0 rfl; have b1 := BX.out.cell 1 rfl; clear hW p))
          have TM1 := TM
          have TN1 := TN
          have FM1 := FM
          have FN1 := FN
          clear TM TN FM FN b0 b1
          go_wp2
          refine wp_region_held_drew (S := fun w' => w'.cell? ⟨w.heap.size, 1, none⟩ = some (.slice an 32 cn)) (by kernel_rfl) (BX.out.drew.cell 1 rfl) (fun _ => ?_)
          have hb : Below u4.heap.size u4 (World.drew u4) := (Below.refl _ _).drew
          have HB := Lib.hid (HB.out.trans (hb.mono HB.out.size))
          have BX := Lib.hid (BX.out.on hb)
          have BY := Lib.hid (BY.out.on hb)
          have TM1 := Lib.hid (TM1.out.on hb)
          have TN1 := Lib.hid (TN1.out.on hb)
          clear hb
          generalize World.drew u4 = x0 at *
          try simp only [Act.put, List.setIfInBounds_toArray, List.set_cons_succ, List.set_cons_zero]
          refine wpAnyH_take (i := 0) (oi := ⟨some 24, .fieldAddr 88 (.tmp 2) 0, _, _, _, none⟩) (v := .pointer (some ⟨w.heap.size, 0, none⟩)) rfl (by kernel_rfl) (by kernel_rfl) (by kernel_rfl) (fun _ _ _ h => h) (Or.inl ⟨by rfl, fun _ _ => by go_simp⟩) (Lib.hid (BX.out.cell 1 rfl)).out ?_
          try simp only [Act.put, List.setIfInBounds_toArray, List.set_cons_succ, List.set_cons_zero]
          refine wpAnyH_take (i := 2) (oi := ⟨some 26, .fieldAddr 88 (.tmp 2) 1, _, _, _, none⟩) (v := .pointer (some ⟨w.heap.size, 1, none⟩)) rfl (by kernel_rfl) (by kernel_rfl) (by kernel_rfl) (fun _ _ _ h => h) (Or.inl ⟨by rfl, fun _ _ => by go_simp⟩) (Lib.hid (BX.out.cell 1 rfl)).out ?_
          try simp only [Act.put, List.setIfInBounds_toArray, List.set_cons_succ, List.set_cons_zero]
          refine wpAnyH_take (i := 3) (oi := ⟨some 27, .load 28 (.tmp 26), 28, _, _, none⟩) (v := .slice an 32 cn) rfl (by kernel_rfl) (by kernel_rfl) (by kernel_rfl) (fun _ _ _ h => h) (Or.inl ⟨by rfl, fun vv hvv => yields_sl (.tmp 26) rfl ⟨w.heap.size, 1, none⟩ rfl hvv⟩) (Lib.hid (BX.out.cell 1 rfl)).out ?_
          try simp only [Act.put, List.setIfInBounds_toArray, List.set_cons_succ, List.set_cons_zero]
          refine wpAnyH_take (i := 5) (oi := ⟨some 29, .move (.tmp 1), 28, _, _, none⟩) (v := .slice a n c) rfl (by kernel_rfl) (by kernel_rfl) (by kernel_rfl) (fun _ _ _ h => h) (Or.inl ⟨by rfl, fun _ _ => by go_simp⟩) (Lib.hid (BX.out.cell 1 rfl)).out ?_
          try simp only [Act.put, List.setIfInBounds_toArray, List.set_cons_succ, List.set_cons_zero]
          refine wpAnyH_ready (rs := [1, 4]) (by kernel_rfl) (by simp) ?_
          refine AllReadyH.cons (o := ⟨some 25, .load 28 (.tmp 24), 28, _, _, none⟩) rfl (fun K hK => ?_) (AllReadyH.cons (o := ⟨some 28, .buildSlice 28 1 #[(0, .const (.int .u8 1))], 28, _, _, none⟩) rfl (fun K hK => ?_) AllReadyH.nil)
          · rw [if_pos (by rfl)]
            refine wp_of_yields (yields_sl (.tmp 24) (by rfl) ⟨w.heap.size, 0, none⟩ (by rfl) (BX.out.cell 0 rfl)) ?_
            refine hK _ _ (Lib.hid (BX.out.cell 1 rfl)).out (fun _ => ?_)
            clear hK K
            try simp only [Act.put, List.setIfInBounds_toArray, List.set_cons_succ, List.set_cons_zero]
            refine wpAnyH_ready (rs := [4]) (by kernel_rfl) (by simp) ?_
            refine AllReadyH.cons (o := ⟨some 28, .buildSlice 28 1 #[(0, .const (.int .u8 1))], 28, _, _, none⟩) rfl (fun K hK => ?_) AllReadyH.nil
            go_simp
            have BI := Blk.new x0 #[.int .u8 1] 5
            have hb := below_one' x0 (.cells #[.int .u8 1] 5)
            generalize World.alloc x0 _ = v1 at *
            have HB := Lib.hid (HB.out.trans (hb.mono HB.out.size))
            have BX := Lib.hid (BX.out.on hb)
            have BY := Lib.hid (BY.out.on hb)
            have TM1 := Lib.hid (TM1.out.on hb)
            have TN1 := Lib.hid (TN1.out.on hb)
            replace BI := Lib.hid BI
            have TI := Lib.hid (by have h : Blk _ _ (barr [1]) _ := BI.out; exact Txt.of_blk h)
            clear hb
            refine hK _ _ (Lib.hid (BX.out.cell 1 rfl)).out (fun _ => ?_)
            clear hK K
            try simp only [Act.put, List.setIfInBounds_toArray, List.set_cons_succ, List.set_cons_zero]
            refine wpAnyH_ready (rs := [6]) (by kernel_rfl) (by simp) ?_
            refine AllReadyH.cons (o := ⟨some 30, .buildSlice 35 3 #[(0, .tmp 27), (1, .tmp 28), (2, .tmp 29)], 35, _, _, none⟩) rfl (fun K hK => ?_) AllReadyH.nil
            go_simp
            have BJ := Blk.new v1 #[.slice an 32 cn, .slice (some ⟨x0.heap.size, 0, none⟩) 1 1, .slice a n c] 28
            have hb := below_one' v1 (.cells #[.slice an 32 cn, .slice (some ⟨x0.heap.size, 0, none⟩) 1 1, .slice a n c] 28)
            generalize World.alloc v1 _ = v2 at *
            have HB := Lib.hid (HB.out.trans (hb.mono HB.out.size))
            have BX := Lib.hid (BX.out.on hb)
            have BY := Lib.hid (BY.out.on hb)
            have TM1 := Lib.hid (TM1.out.on hb)
            have TN1 := Lib.hid (TN1.out.on hb)
            have BI := Lib.hid (BI.out.on hb)
            have TI := Lib.hid (TI.out.on hb)
            replace BJ := Lib.hid BJ
            clear hb
            refine hK _ _ (Lib.hid (BX.out.cell 1 rfl)).out (fun _ => ?_)
            clear hK K
            try simp only [Act.put, List.setIfInBounds_toArray, List.set_cons_succ, List.set_cons_zero]
            refine wpAnyH_ready (rs := [7]) (by kernel_rfl) (by simp) ?_
            refine AllReadyH.cons (o := ⟨some 31, .call { callee := .value (.func 36), args := #[.tmp 30], argTypes := #[35] }, 28, _, _, none⟩) rfl (fun K hK => ?_) AllReadyH.nil
            go_simp
            refine (join_blk3 v2 _ _ BJ.out TN1.out TI.out (HX.out.on HB.out) (by have := HTL.out; have := HVL.out; have := HV1L.out; simp only [List.length_cons, List.length_nil]; omega)).mono ?_
            rintro e v3 ⟨aj2, nj2, cj2, rfl, hO, hb⟩
            have HB := Lib.hid (HB.out.trans (hb.mono HB.out.size))
            have BX := Lib.hid (BX.out.on hb)
            have BY := Lib.hid (BY.out.on hb)
            have TM1 := Lib.hid (TM1.out.on hb)
            have TN1 := Lib.hid (TN1.out.on hb)
            have BI := Lib.hid (BI.out.on hb)
            have TI := Lib.hid (TI.out.on hb)
            have BJ := Lib.hid (BJ.out.on hb)
            have TJ := Lib.hid (hO.txt)
            clear hb hO
            refine hK _ _ (Lib.hid (BX.out.cell 1 rfl)).out (fun _ => ?_)
            clear hK K
            try simp only [Act.put, List.setIfInBounds_toArray, List.set_cons_succ, List.set_cons_zero]
            refine wpAnyH_ready (rs := [8]) (by kernel_rfl) (by simp) ?_
            refine AllReadyH.cons (o := ⟨some 32, .call { callee := .value (.func 44), args := #[.tmp 25, .tmp 31], argTypes := #[28, 28] }, 28, _, _, none⟩) rfl (fun K hK => ?_) AllReadyH.nil
            go_simp
            refine (rmac_walk KK _ am _ _ _ nj2 cj2 v3 TM1.out TJ.out (by have := HKL.out; have := HK1L.out; omega) (by have := HTL.out; have := HVL.out; have := HV1L.out; simp only [List.length_append, List.length_cons, List.length_nil]; omega)).mono ?_
            rintro e v4 ⟨am2, cm2, rfl, hO, hb⟩
            rw [show macL _ _ = K2 from HK2.out.symm] at hO
            have FM := Lib.hid (far_of hO (show w.heap.size + 2 ≤ _ by have := BY.out.lt; omega))
            have HB := Lib.hid (HB.out.trans (hb.mono HB.out.size))
            have BX := Lib.hid (BX.out.on hb)
            have BY := Lib.hid (BY.out.on hb)
            have TM1 := Lib.hid (TM1.out.on hb)
            have TN1 := Lib.hid (TN1.out.on hb)
            have BI := Lib.hid (BI.out.on hb)
            have TI := Lib.hid (TI.out.on hb)
            have BJ := Lib.hid (BJ.out.on hb)
            have TJ := Lib.hid (TJ.out.on hb)
            have TM := Lib.hid (hO.txt)
            clear hb hO
            refine hK _ _ (Lib.hid (BX.out.cell 1 rfl)).out (fun _ => ?_)
            clear hK K
            try simp only [Act.put, List.setIfInBounds_toArray, List.set_cons_succ, List.set_cons_zero]
            refine wpAnyH_take (i := 9) (oi := ⟨some 33, .fieldAddr 88 (.tmp 2) 0, _, _, _, none⟩) (v := .pointer (some ⟨w.heap.size, 0, none⟩)) rfl (by kernel_rfl) (by kernel_rfl) (by kernel_rfl) (fun _ _ _ h => h) (Or.inl ⟨by rfl, fun _ _ => by go_simp⟩) (Lib.hid (BX.out.cell 1 rfl)).out ?_
            try simp only [Act.put, List.setIfInBounds_toArray, List.set_cons_succ, List.set_cons_zero]
            refine wpAnyH_ready (rs := [10]) (by kernel_rfl) (by simp) ?_
            refine AllReadyH.cons (o := ⟨none, .store 28 (.tmp 33) (.tmp 32), 0, _, _, none⟩) rfl (fun K hK => ?_) AllReadyH.nil
            rw [if_pos (by rfl)]
            refine wp_store_slc (.tmp 33) (.tmp 32) (by rfl) w.heap.size 0 am2 32 cm2 (by rfl) (by rfl) BX.out (by simp) ?_
            intro xw hW p
            refine hK _ _ (p.cell 1 rfl) (fun _ => ?_)
            clear hK K
            have BX := Lib.hid (show Blk xw w.heap.size #[.slice am2 32 cm2, .slice an 32 cn, .int .i64 cnt] 88 from p)
            have BY := Lib.hid (hW.blk BY.out (by simp))
            have HB := Lib.hid (hW.below HB.out (Nat.le_refl _))
            have TM := Lib.hid (TM.out.far' (row_of_wrote hW) (fun q o e h => by have := FM.out q o e; simp at h; omega))
            have TN1 := Lib.hid (TN1.out.far' (row_of_wrote hW) (fun q o e h => by have := FN1.out q o e; simp at h; omega))
            clear hW p
            refine wpAnyH_done (by kernel_rfl) ?_ _
            have b0 := BX.out.cell 0 rfl
            have b1 := BX.out.cell 1 rfl
            go_wp2_with fail
            refine (rmac_walk K2 VV _ _ _ _ _ _ _ TM.out TN1.out (by have := HK1L.out; omega) (by have := HVL.out; have := HV1L.out; omega)).mono ?_
            rintro e u7 ⟨ao, co, rfl, hO, hb⟩
            rw [← HV2.out] at hO
            have FN := Lib.hid (far_of hO (show w.heap.size + 2 ≤ _ by have := BY.out.lt; omega))
            have TN := Lib.hid hO.txt
            have BX := Lib.hid (BX.out.on hb)
            have BY := Lib.hid (BY.out.on hb)
            have HB := Lib.hid (HB.out.trans (hb.mono HB.out.size))
            have TM := Lib.hid (TM.out.on hb)
            clear hb hO b0 b1
            go_wp2_with (first | (refine wpList_load_row rfl 88 (.tmp 2) rfl w.heap.size rfl 88 _ _ _ BX.out Tryd.underlying88 rfl size_ref5 ?_) | (refine wpList_store_abs rfl 88 (.tmp 4) (.tmp 40) (by rfl) (w.heap.size + 1) #[.slice am2 32 cm2, .slice ao 32 co, .int .i64 cnt] (by rfl) (by rfl) 88 _ BY.out size_ref5 (by rfl) (by simp [Value.oneCell']) ?_; intro W9 hW p9; have HB9 := Lib.hid (hW.below HB.out (Nat.le_succ _)); have TK9 := Lib.hid (TM.out.far' (row_of_wrote hW) (fun q o e h => by have := FM.out q o e; simp at h; omega)); have TV9 := Lib.hid (TN.out.far' (row_of_wrote hW) (fun q o e h => by have := FN.out q o e; simp at h; omega)); clear hW) | (refine wpList_store_slc rfl (.tmp 39) (.tmp 38) rfl w.heap.size 1 ao 32 co (by rfl) (by rfl) BX.out (by simp) ?_; intro u8 hW p; have BX := Lib.hid (show Blk u8 w.heap.size #[.slice am2 32 cm2, .slice ao 32 co, .int .i64 cnt] 88 from p); have BY := Lib.hid (hW.blk BY.out (by simp)); have HB := Lib.hid (hW.below HB.out (Nat.le_refl _)); have TM := Lib.hid (TM.out.far' (row_of_wrote hW) (fun q o e h => by have := FM.out q o e; simp at h; omega)); have TN := Lib.hid (TN.out.far' (row_of_wrote hW) (fun q o e h => by have := FN.out q o e; simp at h; omega)); have b0 := BX.out.cell 0 rfl; have b1 := BX.out.cell 1 rfl; clear hW p))
            refine bodyPost_ret (v := .agg #[.slice am2 32 cm2, .slice ao 32 co, .int .i64 cnt]) ?_ rfl ⟨_, _, _, _, _, _, rfl, ?_, ?_, (fun q o e => Nat.le_trans (by omega) (FM.out q o e)), (fun q o e => Nat.le_trans (by omega) (FN.out q o e)), HB9.out⟩
            · exact results_str rfl _ p9 rfl Tryd.underlying88 rfl size_ref5
            · have h := TK9.out
              rw [show K2 = updK k v t by unfold updK; rw [if_neg HTN.out, HK2.out, HVV.out, HKK.out]] at h
              exact h
            · have h := TV9.out
              rw [show V2 = updV k v t by unfold updV; rw [if_neg HTN.out, HV2.out, HK2.out, HVV.out, HKK.out]; unfold updK; rw [if_neg HTN.out]] at h
              exact h
          · go_simp
            have BI := Blk.new x0 #[.int .u8 1] 5
            have hb := below_one' x0 (.cells #[.int .u8 1] 5)
            generalize World.alloc x0 _ = v5 at *
            have HB := Lib.hid (HB.out.trans (hb.mono HB.out.size))
            have BX := Lib.hid (BX.out.on hb)
            have BY := Lib.hid (BY.out.on hb)
            have TM1 := Lib.hid (TM1.out.on hb)
            have TN1 := Lib.hid (TN1.out.on hb)
            replace BI := Lib.hid BI
            have TI := Lib.hid (by have h : Blk _ _ (barr [1]) _ := BI.out; exact Txt.of_blk h)
            clear hb
            refine hK _ _ (Lib.hid (BX.out.cell 1 rfl)).out (fun _ => ?_)
            clear hK K
            try simp only [Act.put, List.setIfInBounds_toArray, List.set_cons_succ, List.set_cons_zero]
            refine wpAnyH_ready (rs := [1, 6]) (by kernel_rfl) (by simp) ?_
            refine AllReadyH.cons (o := ⟨some 25, .load 28 (.tmp 24), 28, _, _, none⟩) rfl (fun K hK => ?_) (AllReadyH.cons (o := ⟨some 30, .buildSlice 35 3 #[(0, .tmp 27), (1, .tmp 28), (2, .tmp 29)], 35, _, _, none⟩) rfl (fun K hK => ?_) AllReadyH.nil)
            · rw [if_pos (by rfl)]
              refine wp_of_yields (yields_sl (.tmp 24) (by rfl) ⟨w.heap.size, 0, none⟩ (by rfl) (BX.out.cell 0 rfl)) ?_
              refine hK _ _ (Lib.hid (BX.out.cell 1 rfl)).out (fun _ => ?_)
              clear hK K
              try simp only [Act.put, List.setIfInBounds_toArray, List.set_cons_succ, List.set_cons_zero]
              refine wpAnyH_ready (rs := [6]) (by kernel_rfl) (by simp) ?_
              refine AllReadyH.cons (o := ⟨some 30, .buildSlice 35 3 #[(0, .tmp 27), (1, .tmp 28), (2, .tmp 29)], 35, _, _, none⟩) rfl (fun K hK => ?_) AllReadyH.nil
              go_simp
              have BJ := Blk.new v5 #[.slice an 32 cn, .slice (some ⟨x0.heap.size, 0, none⟩) 1 1, .slice a n c] 28
              have hb := below_one' v5 (.cells #[.slice an 32 cn, .slice (some ⟨x0.heap.size, 0, none⟩) 1 1, .slice a n c] 28)
              generalize World.alloc v5 _ = v6 at *
              have HB := Lib.hid (HB.out.trans (hb.mono HB.out.size))
              have BX := Lib.hid (BX.out.on hb)
              have BY := Lib.hid (BY.out.on hb)
              have TM1 := Lib.hid (TM1.out.on hb)
              have TN1 := Lib.hid (TN1.out.on hb)
              have BI := Lib.hid (BI.out.on hb)
              have TI := Lib.hid (TI.out.on hb)
              replace BJ := Lib.hid BJ
              clear hb
              refine hK _ _ (Lib.hid (BX.out.cell 1 rfl)).out (fun _ => ?_)
              clear hK K
              try simp only [Act.put, List.setIfInBounds_toArray, List.set_cons_succ, List.set_cons_zero]
              refine wpAnyH_ready (rs := [7]) (by kernel_rfl) (by simp) ?_
              refine AllReadyH.cons (o := ⟨some 31, .call { callee := .value (.func 36), args := #[.tmp 30], argTypes := #[35] }, 28, _, _, none⟩) rfl (fun K hK => ?_) AllReadyH.nil
              go_simp
              refine (join_blk3 v6 _ _ BJ.out TN1.out TI.out (HX.out.on HB.out) (by have := HTL.out; have := HVL.out; have := HV1L.out; simp only [List.length_cons, List.length_nil]; omega)).mono ?_
              rintro e v7 ⟨aj2, nj2, cj2, rfl, hO, hb⟩
              have HB := Lib.hid (HB.out.trans (hb.mono HB.out.size))
              have BX := Lib.hid (BX.out.on hb)
              have BY := Lib.hid (BY.out.on hb)
              have TM1 := Lib.hid (TM1.out.on hb)
              have TN1 := Lib.hid (TN1.out.on hb)
              have BI := Lib.hid (BI.out.on hb)
              have TI := Lib.hid (TI.out.on hb)
              have BJ := Lib.hid (BJ.out.on hb)
              have TJ := Lib.hid (hO.txt)
              clear hb hO
              refine hK _ _ (Lib.hid (BX.out.cell 1 rfl)).out (fun _ => ?_)
              clear hK K
              try simp only [Act.put, List.setIfInBounds_toArray, List.set_cons_succ, List.set_cons_zero]
              refine wpAnyH_ready (rs := [8]) (by kernel_rfl) (by simp) ?_
              refine AllReadyH.cons (o := ⟨some 32, .call { callee := .value (.func 44), args := #[.tmp 25, .tmp 31], argTypes := #[28, 28] }, 28, _, _, none⟩) rfl (fun K hK => ?_) AllReadyH.nil
              go_simp
              refine (rmac_walk KK _ am _ _ _ nj2 cj2 v7 TM1.out TJ.out (by have := HKL.out; have := HK1L.out; omega) (by have := HTL.out; have := HVL.out; have := HV1L.out; simp only [List.length_append, List.length_cons, List.length_nil]; omega)).mono ?_
              rintro e v8 ⟨am2, cm2, rfl, hO, hb⟩
              rw [show macL _ _ = K2 from HK2.out.symm] at hO
              have FM := Lib.hid (far_of hO (show w.heap.size + 2 ≤ _ by have := BY.out.lt; omega))
              have HB := Lib.hid (HB.out.trans (hb.mono HB.out.size))
              have BX := Lib.hid (BX.out.on hb)
              have BY := Lib.hid (BY.out.on hb)
              have TM1 := Lib.hid (TM1.out.on hb)
              have TN1 := Lib.hid (TN1.out.on hb)
              have BI := Lib.hid (BI.out.on hb)
              have TI := Lib.hid (TI.out.on hb)
              have BJ := Lib.hid (BJ.out.on hb)
              have TJ := Lib.hid (TJ.out.on hb)
              have TM := Lib.hid (hO.txt)
              clear hb hO
              refine hK _ _ (Lib.hid (BX.out.cell 1 rfl)).out (fun _ => ?_)
              clear hK K
              try simp only [Act.put, List.setIfInBounds_toArray, List.set_cons_succ, List.set_cons_zero]
              refine wpAnyH_take (i := 9) (oi := ⟨some 33, .fieldAddr 88 (.tmp 2) 0, _, _, _, none⟩) (v := .pointer (some ⟨w.heap.size, 0, none⟩)) rfl (by kernel_rfl) (by kernel_rfl) (by kernel_rfl) (fun _ _ _ h => h) (Or.inl ⟨by rfl, fun _ _ => by go_simp⟩) (Lib.hid (BX.out.cell 1 rfl)).out ?_
              try simp only [Act.put, List.setIfInBounds_toArray, List.set_cons_succ, List.set_cons_zero]
              refine wpAnyH_ready (rs := [10]) (by kernel_rfl) (by simp) ?_
              refine AllReadyH.cons (o := ⟨none, .store 28 (.tmp 33) (.tmp 32), 0, _, _, none⟩) rfl (fun K hK => ?_) AllReadyH.nil
              rw [if_pos (by rfl)]
              refine wp_store_slc (.tmp 33) (.tmp 32) (by rfl) w.heap.size 0 am2 32 cm2 (by rfl) (by rfl) BX.out (by simp) ?_
              intro xw hW p
              refine hK _ _ (p.cell 1 rfl) (fun _ => ?_)
              clear hK K
              have BX := Lib.hid (show Blk xw w.heap.size #[.slice am2 32 cm2, .slice an 32 cn, .int .i64 cnt] 88 from p)
              have BY := Lib.hid (hW.blk BY.out (by simp))
              have HB := Lib.hid (hW.below HB.out (Nat.le_refl _))
              have TM := Lib.hid (TM.out.far' (row_of_wrote hW) (fun q o e h => by have := FM.out q o e; simp at h; omega))
              have TN1 := Lib.hid (TN1.out.far' (row_of_wrote hW) (fun q o e h => by have := FN1.out q o e; simp at h; omega))
              clear hW p
              refine wpAnyH_done (by kernel_rfl) ?_ _
              have b0 := BX.out.cell 0 rfl
              have b1 := BX.out.cell 1 rfl
              go_wp2_with fail
              refine (rmac_walk K2 VV _ _ _ _ _ _ _ TM.out TN1.out (by have := HK1L.out; omega) (by have := HVL.out; have := HV1L.out; omega)).mono ?_
              rintro e u7 ⟨ao, co, rfl, hO, hb⟩
              rw [← HV2.out] at hO
              have FN := Lib.hid (far_of hO (show w.heap.size + 2 ≤ _ by have := BY.out.lt; omega))
              have TN := Lib.hid hO.txt
              have BX := Lib.hid (BX.out.on hb)
              have BY := Lib.hid (BY.out.on hb)
              have HB := Lib.hid (HB.out.trans (hb.mono HB.out.size))
              have TM := Lib.hid (TM.out.on hb)
              clear hb hO b0 b1
              go_wp2_with (first | (refine wpList_load_row rfl 88 (.tmp 2) rfl w.heap.size rfl 88 _ _ _ BX.out Tryd.underlying88 rfl size_ref5 ?_) | (refine wpList_store_abs rfl 88 (.tmp 4) (.tmp 40) (by rfl) (w.heap.size + 1) #[.slice am2 32 cm2, .slice ao 32 co, .int .i64 cnt] (by rfl) (by rfl) 88 _ BY.out size_ref5 (by rfl) (by simp [Value.oneCell']) ?_; intro W9 hW p9; have HB9 := Lib.hid (hW.below HB.out (Nat.le_succ _)); have TK9 := Lib.hid (TM.out.far' (row_of_wrote hW) (fun q o e h => by have := FM.out q o e; simp at h; omega)); have TV9 := Lib.hid (TN.out.far' (row_of_wrote hW) (fun q o e h => by have := FN.out q o e; simp at h; omega)); clear hW) | (refine wpList_store_slc rfl (.tmp 39) (.tmp 38) rfl w.heap.size 1 ao 32 co (by rfl) (by rfl) BX.out (by simp) ?_; intro u8 hW p; have BX := Lib.hid (show Blk u8 w.heap.size #[.slice am2 32 cm2, .slice ao 32 co, .int .i64 cnt] 88 from p); have BY := Lib.hid (hW.blk BY.out (by simp)); have HB := Lib.hid (hW.below HB.out (Nat.le_refl _)); have TM := Lib.hid (TM.out.far' (row_of_wrote hW) (fun q o e h => by have := FM.out q o e; simp at h; omega)); have TN := Lib.hid (TN.out.far' (row_of_wrote hW) (fun q o e h => by have := FN.out q o e; simp at h; omega)); have b0 := BX.out.cell 0 rfl; have b1 := BX.out.cell 1 rfl; clear hW p))
              refine bodyPost_ret (v := .agg #[.slice am2 32 cm2, .slice ao 32 co, .int .i64 cnt]) ?_ rfl ⟨_, _, _, _, _, _, rfl, ?_, ?_, (fun q o e => Nat.le_trans (by omega) (FM.out q o e)), (fun q o e => Nat.le_trans (by omega) (FN.out q o e)), HB9.out⟩
              · exact results_str rfl _ p9 rfl Tryd.underlying88 rfl size_ref5
              · have h := TK9.out
                rw [show K2 = updK k v t by unfold updK; rw [if_neg HTN.out, HK2.out, HVV.out, HKK.out]] at h
                exact h
              · have h := TV9.out
                rw [show V2 = updV k v t by unfold updV; rw [if_neg HTN.out, HV2.out, HK2.out, HVV.out, HKK.out]; unfold updK; rw [if_neg HTN.out]] at h
                exact h
            · go_simp
              have BJ := Blk.new v5 #[.slice an 32 cn, .slice (some ⟨x0.heap.size, 0, none⟩) 1 1, .slice a n c] 28
              have hb := below_one' v5 (.cells #[.slice an 32 cn, .slice (some ⟨x0.heap.size, 0, none⟩) 1 1, .slice a n c] 28)
              generalize World.alloc v5 _ = v9 at *
              have HB := Lib.hid (HB.out.trans (hb.mono HB.out.size))
              have BX := Lib.hid (BX.out.on hb)
              have BY := Lib.hid (BY.out.on hb)
              have TM1 := Lib.hid (TM1.out.on hb)
              have TN1 := Lib.hid (TN1.out.on hb)
              have BI := Lib.hid (BI.out.on hb)
              have TI := Lib.hid (TI.out.on hb)
              replace BJ := Lib.hid BJ
              clear hb
              refine hK _ _ (Lib.hid (BX.out.cell 1 rfl)).out (fun _ => ?_)
              clear hK K
              try simp only [Act.put, List.setIfInBounds_toArray, List.set_cons_succ, List.set_cons_zero]
              refine wpAnyH_ready (rs := [1, 7]) (by kernel_rfl) (by simp) ?_
              refine AllReadyH.cons (o := ⟨some 25, .load 28 (.tmp 24), 28, _, _, none⟩) rfl (fun K hK => ?_) (AllReadyH.cons (o := ⟨some 31, .call { callee := .value (.func 36), args := #[.tmp 30], argTypes := #[35] }, 28, _, _, none⟩) rfl (fun K hK => ?_) AllReadyH.nil)
              · rw [if_pos (by rfl)]
                refine wp_of_yields (yields_sl (.tmp 24) (by rfl) ⟨w.heap.size, 0, none⟩ (by rfl) (BX.out.cell 0 rfl)) ?_
                refine hK _ _ (Lib.hid (BX.out.cell 1 rfl)).out (fun _ => ?_)
                clear hK K
                try simp only [Act.put, List.setIfInBounds_toArray, List.set_cons_succ, List.set_cons_zero]
                refine wpAnyH_ready (rs := [7]) (by kernel_rfl) (by simp) ?_
                refine AllReadyH.cons (o := ⟨some 31, .call { callee := .value (.func 36), args := #[.tmp 30], argTypes := #[35] }, 28, _, _, none⟩) rfl (fun K hK => ?_) AllReadyH.nil
                go_simp
                refine (join_blk3 v9 _ _ BJ.out TN1.out TI.out (HX.out.on HB.out) (by have := HTL.out; have := HVL.out; have := HV1L.out; simp only [List.length_cons, List.length_nil]; omega)).mono ?_
                rintro e v10 ⟨aj2, nj2, cj2, rfl, hO, hb⟩
                have HB := Lib.hid (HB.out.trans (hb.mono HB.out.size))
                have BX := Lib.hid (BX.out.on hb)
                have BY := Lib.hid (BY.out.on hb)
                have TM1 := Lib.hid (TM1.out.on hb)
                have TN1 := Lib.hid (TN1.out.on hb)
                have BI := Lib.hid (BI.out.on hb)
                have TI := Lib.hid (TI.out.on hb)
                have BJ := Lib.hid (BJ.out.on hb)
                have TJ := Lib.hid (hO.txt)
                clear hb hO
                refine hK _ _ (Lib.hid (BX.out.cell 1 rfl)).out (fun _ => ?_)
                clear hK K
                try simp only [Act.put, List.setIfInBounds_toArray, List.set_cons_succ, List.set_cons_zero]
                refine wpAnyH_ready (rs := [8]) (by kernel_rfl) (by simp) ?_
                refine AllReadyH.cons (o := ⟨some 32, .call { callee := .value (.func 44), args := #[.tmp 25, .tmp 31], argTypes := #[28, 28] }, 28, _, _, none⟩) rfl (fun K hK => ?_) AllReadyH.nil
                go_simp
                refine (rmac_walk KK _ am _ _ _ nj2 cj2 v10 TM1.out TJ.out (by have := HKL.out; have := HK1L.out; omega) (by have := HTL.out; have := HVL.out; have := HV1L.out; simp only [List.length_append, List.length_cons, List.length_nil]; omega)).mono ?_
                rintro e v11 ⟨am2, cm2, rfl, hO, hb⟩
                rw [show macL _ _ = K2 from HK2.out.symm] at hO
                have FM := Lib.hid (far_of hO (show w.heap.size + 2 ≤ _ by have := BY.out.lt; omega))
                have HB := Lib.hid (HB.out.trans (hb.mono HB.out.size))
                have BX := Lib.hid (BX.out.on hb)
                have BY := Lib.hid (BY.out.on hb)
                have TM1 := Lib.hid (TM1.out.on hb)
                have TN1 := Lib.hid (TN1.out.on hb)
                have BI := Lib.hid (BI.out.on hb)
                have TI := Lib.hid (TI.out.on hb)
                have BJ := Lib.hid (BJ.out.on hb)
                have TJ := Lib.hid (TJ.out.on hb)
                have TM := Lib.hid (hO.txt)
                clear hb hO
                refine hK _ _ (Lib.hid (BX.out.cell 1 rfl)).out (fun _ => ?_)
                clear hK K
                try simp only [Act.put, List.setIfInBounds_toArray, List.set_cons_succ, List.set_cons_zero]
                refine wpAnyH_take (i := 9) (oi := ⟨some 33, .fieldAddr 88 (.tmp 2) 0, _, _, _, none⟩) (v := .pointer (some ⟨w.heap.size, 0, none⟩)) rfl (by kernel_rfl) (by kernel_rfl) (by kernel_rfl) (fun _ _ _ h => h) (Or.inl ⟨by rfl, fun _ _ => by go_simp⟩) (Lib.hid (BX.out.cell 1 rfl)).out ?_
                try simp only [Act.put, List.setIfInBounds_toArray, List.set_cons_succ, List.set_cons_zero]
                refine wpAnyH_ready (rs := [10]) (by kernel_rfl) (by simp) ?_
                refine AllReadyH.cons (o := ⟨none, .store 28 (.tmp 33) (.tmp 32), 0, _, _, none⟩) rfl (fun K hK => ?_) AllReadyH.nil
                rw [if_pos (by rfl)]
                refine wp_store_slc (.tmp 33) (.tmp 32) (by rfl) w.heap.size 0 am2 32 cm2 (by rfl) (by rfl) BX.out (by simp) ?_
                intro xw hW p
                refine hK _ _ (p.cell 1 rfl) (fun _ => ?_)
                clear hK K
                have BX := Lib.hid (show Blk xw w.heap.size #[.slice am2 32 cm2, .slice an 32 cn, .int .i64 cnt] 88 from p)
                have BY := Lib.hid (hW.blk BY.out (by simp))
                have HB := Lib.hid (hW.below HB.out (Nat.le_refl _))
                have TM := Lib.hid (TM.out.far' (row_of_wrote hW) (fun q o e h => by have := FM.out q o e; simp at h; omega))
                have TN1 := Lib.hid (TN1.out.far' (row_of_wrote hW) (fun q o e h => by have := FN1.out q o e; simp at h; omega))
                clear hW p
                refine wpAnyH_done (by kernel_rfl) ?_ _
                have b0 := BX.out.cell 0 rfl
                have b1 := BX.out.cell 1 rfl
                go_wp2_with fail
                refine (rmac_walk K2 VV _ _ _ _ _ _ _ TM.out TN1.out (by have := HK1L.out; omega) (by have := HVL.out; have := HV1L.out; omega)).mono ?_
                rintro e u7 ⟨ao, co, rfl, hO, hb⟩
                rw [← HV2.out] at hO
                have FN := Lib.hid (far_of hO (show w.heap.size + 2 ≤ _ by have := BY.out.lt; omega))
                have TN := Lib.hid hO.txt
                have BX := Lib.hid (BX.out.on hb)
                have BY := Lib.hid (BY.out.on hb)
                have HB := Lib.hid (HB.out.trans (hb.mono HB.out.size))
                have TM := Lib.hid (TM.out.on hb)
                clear hb hO b0 b1
                go_wp2_with (first | (refine wpList_load_row rfl 88 (.tmp 2) rfl w.heap.size rfl 88 _ _ _ BX.out Tryd.underlying88 rfl size_ref5 ?_) | (refine wpList_store_abs rfl 88 (.tmp 4) (.tmp 40) (by rfl) (w.heap.size + 1) #[.slice am2 32 cm2, .slice ao 32 co, .int .i64 cnt] (by rfl) (by rfl) 88 _ BY.out size_ref5 (by rfl) (by simp [Value.oneCell']) ?_; intro W9 hW p9; have HB9 := Lib.hid (hW.below HB.out (Nat.le_succ _)); have TK9 := Lib.hid (TM.out.far' (row_of_wrote hW) (fun q o e h => by have := FM.out q o e; simp at h; omega)); have TV9 := Lib.hid (TN.out.far' (row_of_wrote hW) (fun q o e h => by have := FN.out q o e; simp at h; omega)); clear hW) | (refine wpList_store_slc rfl (.tmp 39) (.tmp 38) rfl w.heap.size 1 ao 32 co (by rfl) (by rfl) BX.out (by simp) ?_; intro u8 hW p; have BX := Lib.hid (show Blk u8 w.heap.size #[.slice am2 32 cm2, .slice ao 32 co, .int .i64 cnt] 88 from p); have BY := Lib.hid (hW.blk BY.out (by simp)); have HB := Lib.hid (hW.below HB.out (Nat.le_refl _)); have TM := Lib.hid (TM.out.far' (row_of_wrote hW) (fun q o e h => by have := FM.out q o e; simp at h; omega)); have TN := Lib.hid (TN.out.far' (row_of_wrote hW) (fun q o e h => by have := FN.out q o e; simp at h; omega)); have b0 := BX.out.cell 0 rfl; have b1 := BX.out.cell 1 rfl; clear hW p))
                refine bodyPost_ret (v := .agg #[.slice am2 32 cm2, .slice ao 32 co, .int .i64 cnt]) ?_ rfl ⟨_, _, _, _, _, _, rfl, ?_, ?_, (fun q o e => Nat.le_trans (by omega) (FM.out q o e)), (fun q o e => Nat.le_trans (by omega) (FN.out q o e)), HB9.out⟩
                · exact results_str rfl _ p9 rfl Tryd.underlying88 rfl size_ref5
                · have h := TK9.out
                  rw [show K2 = updK k v t by unfold updK; rw [if_neg HTN.out, HK2.out, HVV.out, HKK.out]] at h
                  exact h
                · have h := TV9.out
                  rw [show V2 = updV k v t by unfold updV; rw [if_neg HTN.out, HV2.out, HK2.out, HVV.out, HKK.out]; unfold updK; rw [if_neg HTN.out]] at h
                  exact h
              · go_simp
                refine (join_blk3 v9 _ _ BJ.out TN1.out TI.out (HX.out.on HB.out) (by have := HTL.out; have := HVL.out; have := HV1L.out; simp only [List.length_cons, List.length_nil]; omega)).mono ?_
                rintro e v12 ⟨aj2, nj2, cj2, rfl, hO, hb⟩
                have HB := Lib.hid (HB.out.trans (hb.mono HB.out.size))
                have BX := Lib.hid (BX.out.on hb)
                have BY := Lib.hid (BY.out.on hb)
                have TM1 := Lib.hid (TM1.out.on hb)
                have TN1 := Lib.hid (TN1.out.on hb)
                have BI := Lib.hid (BI.out.on hb)
                have TI := Lib.hid (TI.out.on hb)
                have BJ := Lib.hid (BJ.out.on hb)
                have TJ := Lib.hid (hO.txt)
                clear hb hO
                refine hK _ _ (Lib.hid (BX.out.cell 1 rfl)).out (fun _ => ?_)
                clear hK K
                try simp only [Act.put, List.setIfInBounds_toArray, List.set_cons_succ, List.set_cons_zero]
                refine wpAnyH_ready (rs := [1]) (by kernel_rfl) (by simp) ?_
                refine AllReadyH.cons (o := ⟨some 25, .load 28 (.tmp 24), 28, _, _, none⟩) rfl (fun K hK => ?_) AllReadyH.nil
                rw [if_pos (by rfl)]
                refine wp_of_yields (yields_sl (.tmp 24) (by rfl) ⟨w.heap.size, 0, none⟩ (by rfl) (BX.out.cell 0 rfl)) ?_
                refine hK _ _ (Lib.hid (BX.out.cell 1 rfl)).out (fun _ => ?_)
                clear hK K
                try simp only [Act.put, List.setIfInBounds_toArray, List.set_cons_succ, List.set_cons_zero]
                refine wpAnyH_ready (rs := [8]) (by kernel_rfl) (by simp) ?_
                refine AllReadyH.cons (o := ⟨some 32, .call { callee := .value (.func 44), args := #[.tmp 25, .tmp 31], argTypes := #[28, 28] }, 28, _, _, none⟩) rfl (fun K hK => ?_) AllReadyH.nil
                go_simp
                refine (rmac_walk KK _ am _ _ _ nj2 cj2 v12 TM1.out TJ.out (by have := HKL.out; have := HK1L.out; omega) (by have := HTL.out; have := HVL.out; have := HV1L.out; simp only [List.length_append, List.length_cons, List.length_nil]; omega)).mono ?_
                rintro e v13 ⟨am2, cm2, rfl, hO, hb⟩
                rw [show macL _ _ = K2 from HK2.out.symm] at hO
                have FM := Lib.hid (far_of hO (show w.heap.size + 2 ≤ _ by have := BY.out.lt; omega))
                have HB := Lib.hid (HB.out.trans (hb.mono HB.out.size))
                have BX := Lib.hid (BX.out.on hb)
                have BY := Lib.hid (BY.out.on hb)
                have TM1 := Lib.hid (TM1.out.on hb)
                have TN1 := Lib.hid (TN1.out.on hb)
                have BI := Lib.hid (BI.out.on hb)
                have TI := Lib.hid (TI.out.on hb)
                have BJ := Lib.hid (BJ.out.on hb)
                have TJ := Lib.hid (TJ.out.on hb)
                have TM := Lib.hid (hO.txt)
                clear hb hO
                refine hK _ _ (Lib.hid (BX.out.cell 1 rfl)).out (fun _ => ?_)
                clear hK K
                try simp only [Act.put, List.setIfInBounds_toArray, List.set_cons_succ, List.set_cons_zero]
                refine wpAnyH_take (i := 9) (oi := ⟨some 33, .fieldAddr 88 (.tmp 2) 0, _, _, _, none⟩) (v := .pointer (some ⟨w.heap.size, 0, none⟩)) rfl (by kernel_rfl) (by kernel_rfl) (by kernel_rfl) (fun _ _ _ h => h) (Or.inl ⟨by rfl, fun _ _ => by go_simp⟩) (Lib.hid (BX.out.cell 1 rfl)).out ?_
                try simp only [Act.put, List.setIfInBounds_toArray, List.set_cons_succ, List.set_cons_zero]
                refine wpAnyH_ready (rs := [10]) (by kernel_rfl) (by simp) ?_
                refine AllReadyH.cons (o := ⟨none, .store 28 (.tmp 33) (.tmp 32), 0, _, _, none⟩) rfl (fun K hK => ?_) AllReadyH.nil
                rw [if_pos (by rfl)]
                refine wp_store_slc (.tmp 33) (.tmp 32) (by rfl) w.heap.size 0 am2 32 cm2 (by rfl) (by rfl) BX.out (by simp) ?_
                intro xw hW p
                refine hK _ _ (p.cell 1 rfl) (fun _ => ?_)
                clear hK K
                have BX := Lib.hid (show Blk xw w.heap.size #[.slice am2 32 cm2, .slice an 32 cn, .int .i64 cnt] 88 from p)
                have BY := Lib.hid (hW.blk BY.out (by simp))
                have HB := Lib.hid (hW.below HB.out (Nat.le_refl _))
                have TM := Lib.hid (TM.out.far' (row_of_wrote hW) (fun q o e h => by have := FM.out q o e; simp at h; omega))
                have TN1 := Lib.hid (TN1.out.far' (row_of_wrote hW) (fun q o e h => by have := FN1.out q o e; simp at h; omega))
                clear hW p
                refine wpAnyH_done (by kernel_rfl) ?_ _
                have b0 := BX.out.cell 0 rfl
                have b1 := BX.out.cell 1 rfl
                go_wp2_with fail
                refine (rmac_walk K2 VV _ _ _ _ _ _ _ TM.out TN1.out (by have := HK1L.out; omega) (by have := HVL.out; have := HV1L.out; omega)).mono ?_
                rintro e u7 ⟨ao, co, rfl, hO, hb⟩
                rw [← HV2.out] at hO
                have FN := Lib.hid (far_of hO (show w.heap.size + 2 ≤ _ by have := BY.out.lt; omega))
                have TN := Lib.hid hO.txt
                have BX := Lib.hid (BX.out.on hb)
                have BY := Lib.hid (BY.out.on hb)
                have HB := Lib.hid (HB.out.trans (hb.mono HB.out.size))
                have TM := Lib.hid (TM.out.on hb)
                clear hb hO b0 b1
                go_wp2_with (first | (refine wpList_load_row rfl 88 (.tmp 2) rfl w.heap.size rfl 88 _ _ _ BX.out Tryd.underlying88 rfl size_ref5 ?_) | (refine wpList_store_abs rfl 88 (.tmp 4) (.tmp 40) (by rfl) (w.heap.size + 1) #[.slice am2 32 cm2, .slice ao 32 co, .int .i64 cnt] (by rfl) (by rfl) 88 _ BY.out size_ref5 (by rfl) (by simp [Value.oneCell']) ?_; intro W9 hW p9; have HB9 := Lib.hid (hW.below HB.out (Nat.le_succ _)); have TK9 := Lib.hid (TM.out.far' (row_of_wrote hW) (fun q o e h => by have := FM.out q o e; simp at h; omega)); have TV9 := Lib.hid (TN.out.far' (row_of_wrote hW) (fun q o e h => by have := FN.out q o e; simp at h; omega)); clear hW) | (refine wpList_store_slc rfl (.tmp 39) (.tmp 38) rfl w.heap.size 1 ao 32 co (by rfl) (by rfl) BX.out (by simp) ?_; intro u8 hW p; have BX := Lib.hid (show Blk u8 w.heap.size #[.slice am2 32 cm2, .slice ao 32 co, .int .i64 cnt] 88 from p); have BY := Lib.hid (hW.blk BY.out (by simp)); have HB := Lib.hid (hW.below HB.out (Nat.le_refl _)); have TM := Lib.hid (TM.out.far' (row_of_wrote hW) (fun q o e h => by have := FM.out q o e; simp at h; omega)); have TN := Lib.hid (TN.out.far' (row_of_wrote hW) (fun q o e h => by have := FN.out q o e; simp at h; omega)); have b0 := BX.out.cell 0 rfl; have b1 := BX.out.cell 1 rfl; clear hW p))
                refine bodyPost_ret (v := .agg #[.slice am2 32 cm2, .slice ao 32 co, .int .i64 cnt]) ?_ rfl ⟨_, _, _, _, _, _, rfl, ?_, ?_, (fun q o e => Nat.le_trans (by omega) (FM.out q o e)), (fun q o e => Nat.le_trans (by omega) (FN.out q o e)), HB9.out⟩
                · exact results_str rfl _ p9 rfl Tryd.underlying88 rfl size_ref5
                · have h := TK9.out
                  rw [show K2 = updK k v t by unfold updK; rw [if_neg HTN.out, HK2.out, HVV.out, HKK.out]] at h
                  exact h
                · have h := TV9.out
                  rw [show V2 = updV k v t by unfold updV; rw [if_neg HTN.out, HV2.out, HK2.out, HVV.out, HKK.out]; unfold updK; rw [if_neg HTN.out]] at h
                  exact h
        · go_simp
          refine (join_blk3 v9 _ _ BJ.out (HV.out.on HB.out) TI.out (HX.out.on HB.out) (by have := HTL.out; have := HVL.out; have := HV1L.out; simp only [List.length_cons, List.length_nil]; omega)).mono ?_
          rintro e v12 ⟨aj, nj, cj, rfl, hO, hb⟩
          have HB := Lib.hid (HB.out.trans (hb.mono HB.out.size))
          have BX := Lib.hid (BX.out.on hb)
          have BY := Lib.hid (BY.out.on hb)
          have BI := Lib.hid (BI.out.on hb)
          have TI := Lib.hid (TI.out.on hb)
          have BJ := Lib.hid (BJ.out.on hb)
          have TJ := Lib.hid (hO.txt)
          clear hb hO
          refine hK _ _ (Lib.hid (BX.out.cell 1 rfl)).out (fun _ => ?_)
          clear hK K
          try simp only [Act.put, List.setIfInBounds_toArray, List.set_cons_succ, List.set_cons_zero]
          refine wpAnyH_ready (rs := [1]) (by kernel_rfl) (by simp) ?_
          refine AllReadyH.cons (o := ⟨some 6, .load 28 (.tmp 5), 28, _, _, none⟩) rfl (fun K hK => ?_) AllReadyH.nil
          rw [if_pos (by rfl)]
          refine wp_of_yields (yields_sl (.tmp 5) (by rfl) ⟨w.heap.size, 0, none⟩ (by rfl) (BX.out.cell 0 rfl)) ?_
          refine hK _ _ (Lib.hid (BX.out.cell 1 rfl)).out (fun _ => ?_)
          clear hK K
          try simp only [Act.put, List.setIfInBounds_toArray, List.set_cons_succ, List.set_cons_zero]
          refine wpAnyH_ready (rs := [8]) (by kernel_rfl) (by simp) ?_
          refine AllReadyH.cons (o := ⟨some 13, .call { callee := .value (.func 44), args := #[.tmp 6, .tmp 12], argTypes := #[28, 28] }, 28, _, _, none⟩) rfl (fun K hK => ?_) AllReadyH.nil
          go_simp
          refine (rmac_walk k _ ka _ _ _ nj cj v12 (HK.out.on HB.out) TJ.out (by have := HKL.out; have := HK1L.out; omega) (by have := HTL.out; have := HVL.out; have := HV1L.out; simp only [List.length_append, List.length_cons, List.length_nil]; omega)).mono ?_
          rintro e v13 ⟨am, cm, rfl, hO, hb⟩
          rw [show macL _ _ = KK from HKK.out.symm] at hO
          have FM := Lib.hid (far_of hO (show w.heap.size + 2 ≤ _ by have := BY.out.lt; omega))
          have HB := Lib.hid (HB.out.trans (hb.mono HB.out.size))
          have BX := Lib.hid (BX.out.on hb)
          have BY := Lib.hid (BY.out.on hb)
          have BI := Lib.hid (BI.out.on hb)
          have TI := Lib.hid (TI.out.on hb)
          have BJ := Lib.hid (BJ.out.on hb)
          have TJ := Lib.hid (TJ.out.on hb)
          have TM := Lib.hid (hO.txt)
          clear hb hO
          refine hK _ _ (Lib.hid (BX.out.cell 1 rfl)).out (fun _ => ?_)
          clear hK K
          try simp only [Act.put, List.setIfInBounds_toArray, List.set_cons_succ, List.set_cons_zero]
          refine wpAnyH_take (i := 9) (oi := ⟨some 14, .fieldAddr 88 (.tmp 2) 0, _, _, _, none⟩) (v := .pointer (some ⟨w.heap.size, 0, none⟩)) rfl (by kernel_rfl) (by kernel_rfl) (by kernel_rfl) (fun _ _ _ h => h) (Or.inl ⟨by rfl, fun _ _ => by go_simp⟩) (Lib.hid (BX.out.cell 1 rfl)).out ?_
          try simp only [Act.put, List.setIfInBounds_toArray, List.set_cons_succ, List.set_cons_zero]
          refine wpAnyH_ready (rs := [10]) (by kernel_rfl) (by simp) ?_
          refine AllReadyH.cons (o := ⟨none, .store 28 (.tmp 14) (.tmp 13), 0, _, _, none⟩) rfl (fun K hK => ?_) AllReadyH.nil
          rw [if_pos (by rfl)]
          refine wp_store_slc (.tmp 14) (.tmp 13) (by rfl) w.heap.size 0 am 32 cm (by rfl) (by rfl) BX.out (by simp) ?_
          intro vw hW p
          refine hK _ _ (p.cell 1 rfl) (fun _ => ?_)
          clear hK K
          have BX := Lib.hid (show Blk vw w.heap.size #[.slice am 32 cm, .slice va vn vc, .int .i64 cnt] 88 from p)
          have BY := Lib.hid (hW.blk BY.out (by simp))
          have HB := Lib.hid (hW.below HB.out (Nat.le_refl _))
          have TM := Lib.hid (TM.out.far' (row_of_wrote hW) (fun q o e h => by have := FM.out q o e; simp at h; omega))
          clear hW p
          refine wpAnyH_done (by kernel_rfl) ?_ _
          have b0 := BX.out.cell 0 rfl
          have b1 := BX.out.cell 1 rfl
          go_wp2_with fail
          refine (rmac_walk KK v _ _ _ _ _ _ _ TM.out (HV.out.on HB.out) (by have := HK1L.out; omega) (by have := HVL.out; have := HV1L.out; omega)).mono ?_
          rintro e u3 ⟨an, cn, rfl, hO, hb⟩
          rw [← HVV.out] at hO
          have FN := Lib.hid (far_of hO (show w.heap.size + 2 ≤ _ by have := BY.out.lt; omega))
          have TN := Lib.hid hO.txt
          have BX := Lib.hid (BX.out.on hb)
          have BY := Lib.hid (BY.out.on hb)
          have HB := Lib.hid (HB.out.trans (hb.mono HB.out.size))
          have TM := Lib.hid (TM.out.on hb)
          clear hb hO b0 b1
          go_wp2_with (first | (refine wpList_store_slc rfl (.tmp 20) (.tmp 19) rfl w.heap.size 1 an 32 cn (by rfl) (by rfl) BX.out (by simp) ?_; intro u4 hW p; have BX := Lib.hid (show Blk u4 w.heap.size #[.slice am 32 cm, .slice an 32 cn, .int .i64 cnt] 88 from p); have BY := Lib.hid (hW.blk BY.out (by simp)); have HB := Lib.hid (hW.below HB.out (Nat.le_refl _)); have TM := Lib.hid (TM.out.far' (row_of_wrote hW) (fun q o e h => by have := FM.out q o e; simp at h; omega)); have TN := Lib.hid (TN.out.far' (row_of_wrote hW) (fun q o e h => by have := FN.out q o e; simp at h; omega)); have b0 := BX.out.cell 0 rfl; have b1 := BX.out.cell 1 rfl; clear hW p))
          have TM1 := TM
          have TN1 := TN
          have FM1 := FM
          have FN1 := FN
          clear TM TN FM FN b0 b1
          go_wp2
          refine wp_region_held_drew (S := fun w' => w'.cell? ⟨w.heap.size, 1, none⟩ = some (.slice an 32 cn)) (by kernel_rfl) (BX.out.drew.cell 1 rfl) (fun _ => ?_)
          have hb : Below u4.heap.size u4 (World.drew u4) := (Below.refl _ _).drew
          have HB := Lib.hid (HB.out.trans (hb.mono HB.out.size))
          have BX := Lib.hid (BX.out.on hb)
          have BY := Lib.hid (BY.out.on hb)
          have TM1 := Lib.hid (TM1.out.on hb)
          have TN1 := Lib.hid (TN1.out.on hb)
          clear hb
          generalize World.drew u4 = x0 at *
          try simp only [Act.put, List.setIfInBounds_toArray, List.set_cons_succ, List.set_cons_zero]
          refine wpAnyH_take (i := 0) (oi := ⟨some 24, .fieldAddr 88 (.tmp 2) 0, _, _, _, none⟩) (v := .pointer (some ⟨w.heap.size, 0, none⟩)) rfl (by kernel_rfl) (by kernel_rfl) (by kernel_rfl) (fun _ _ _ h => h) (Or.inl ⟨by rfl, fun _ _ => by go_simp⟩) (Lib.hid (BX.out.cell 1 rfl)).out ?_
          try simp only [Act.put, List.setIfInBounds_toArray, List.set_cons_succ, List.set_cons_zero]
          refine wpAnyH_take (i := 2) (oi := ⟨some 26, .fieldAddr 88 (.tmp 2) 1, _, _, _, none⟩) (v := .pointer (some ⟨w.heap.size, 1, none⟩)) rfl (by kernel_rfl) (by kernel_rfl) (by kernel_rfl) (fun _ _ _ h => h) (Or.inl ⟨by rfl, fun _ _ => by go_simp⟩) (Lib.hid (BX.out.cell 1 rfl)).out ?_
          try simp only [Act.put, List.setIfInBounds_toArray, List.set_cons_succ, List.set_cons_zero]
          refine wpAnyH_take (i := 3) (oi := ⟨some 27, .load 28 (.tmp 26), 28, _, _, none⟩) (v := .slice an 32 cn) rfl (by kernel_rfl) (by kernel_rfl) (by kernel_rfl) (fun _ _ _ h => h) (Or.inl ⟨by rfl, fun vv hvv => yields_sl (.tmp 26) rfl ⟨w.heap.size, 1, none⟩ rfl hvv⟩) (Lib.hid (BX.out.cell 1 rfl)).out ?_
          try simp only [Act.put, List.setIfInBounds_toArray, List.set_cons_succ, List.set_cons_zero]
          refine wpAnyH_take (i := 5) (oi := ⟨some 29, .move (.tmp 1), 28, _, _, none⟩) (v := .slice a n c) rfl (by kernel_rfl) (by kernel_rfl) (by kernel_rfl) (fun _ _ _ h => h) (Or.inl ⟨by rfl, fun _ _ => by go_simp⟩) (Lib.hid (BX.out.cell 1 rfl)).out ?_
          try simp only [Act.put, List.setIfInBounds_toArray, List.set_cons_succ, List.set_cons_zero]
          refine wpAnyH_ready (rs := [1, 4]) (by kernel_rfl) (by simp) ?_
          refine AllReadyH.cons (o := ⟨some 25, .load 28 (.tmp 24), 28, _, _, none⟩) rfl (fun K hK => ?_) (AllReadyH.cons (o := ⟨some 28, .buildSlice 28 1 #[(0, .const (.int .u8 1))], 28, _, _, none⟩) rfl (fun K hK => ?_) AllReadyH.nil)
          · rw [if_pos (by rfl)]
            refine wp_of_yields (yields_sl (.tmp 24) (by rfl) ⟨w.heap.size, 0, none⟩ (by rfl) (BX.out.cell 0 rfl)) ?_
            refine hK _ _ (Lib.hid (BX.out.cell 1 rfl)).out (fun _ => ?_)
            clear hK K
            try simp only [Act.put, List.setIfInBounds_toArray, List.set_cons_succ, List.set_cons_zero]
            refine wpAnyH_ready (rs := [4]) (by kernel_rfl) (by simp) ?_
            refine AllReadyH.cons (o := ⟨some 28, .buildSlice 28 1 #[(0, .const (.int .u8 1))], 28, _, _, none⟩) rfl (fun K hK => ?_) AllReadyH.nil
            go_simp
            have BI := Blk.new x0 #[.int .u8 1] 5
            have hb := below_one' x0 (.cells #[.int .u8 1] 5)
            generalize World.alloc x0 _ = v1 at *
            have HB := Lib.hid (HB.out.trans (hb.mono HB.out.size))
            have BX := Lib.hid (BX.out.on hb)
            have BY := Lib.hid (BY.out.on hb)
            have TM1 := Lib.hid (TM1.out.on hb)
            have TN1 := Lib.hid (TN1.out.on hb)
            replace BI := Lib.hid BI
            have TI := Lib.hid (by have h : Blk _ _ (barr [1]) _ := BI.out; exact Txt.of_blk h)
            clear hb
            refine hK _ _ (Lib.hid (BX.out.cell 1 rfl)).out (fun _ => ?_)
            clear hK K
            try simp only [Act.put, List.setIfInBounds_toArray, List.set_cons_succ, List.set_cons_zero]
            refine wpAnyH_ready (rs := [6]) (by kernel_rfl) (by simp) ?_
            refine AllReadyH.cons (o := ⟨some 30, .buildSlice 35 3 #[(0, .tmp 27), (1, .tmp 28), (2, .tmp 29)], 35, _, _, none⟩) rfl (fun K hK => ?_) AllReadyH.nil
            go_simp
            have BJ := Blk.new v1 #[.slice an 32 cn, .slice (some ⟨x0.heap.size, 0, none⟩) 1 1, .slice a n c] 28
            have hb := below_one' v1 (.cells #[.slice an 32 cn, .slice (some ⟨x0.heap.size, 0, none⟩) 1 1, .slice a n c] 28)
            generalize World.alloc v1 _ = v2 at *
            have HB := Lib.hid (HB.out.trans (hb.mono HB.out.size))
            have BX := Lib.hid (BX.out.on hb)
            have BY := Lib.hid (BY.out.on hb)
            have TM1 := Lib.hid (TM1.out.on hb)
            have TN1 := Lib.hid (TN1.out.on hb)
            have BI := Lib.hid (BI.out.on hb)
            have TI := Lib.hid (TI.out.on hb)
            replace BJ := Lib.hid BJ
            clear hb
            refine hK _ _ (Lib.hid (BX.out.cell 1 rfl)).out (fun _ => ?_)
            clear hK K
            try simp only [Act.put, List.setIfInBounds_toArray, List.set_cons_succ, List.set_cons_zero]
            refine wpAnyH_ready (rs := [7]) (by kernel_rfl) (by simp) ?_
            refine AllReadyH.cons (o := ⟨some 31, .call { callee := .value (.func 36), args := #[.tmp 30], argTypes := #[35] }, 28, _, _, none⟩) rfl (fun K hK => ?_) AllReadyH.nil
            go_simp
            refine (join_blk3 v2 _ _ BJ.out TN1.out TI.out (HX.out.on HB.out) (by have := HTL.out; have := HVL.out; have := HV1L.out; simp only [List.length_cons, List.length_nil]; omega)).mono ?_
            rintro e v3 ⟨aj2, nj2, cj2, rfl, hO, hb⟩
            have HB := Lib.hid (HB.out.trans (hb.mono HB.out.size))
            have BX := Lib.hid (BX.out.on hb)
            have BY := Lib.hid (BY.out.on hb)
            have TM1 := Lib.hid (TM1.out.on hb)
            have TN1 := Lib.hid (TN1.out.on hb)
            have BI := Lib.hid (BI.out.on hb)
            have TI := Lib.hid (TI.out.on hb)
            have BJ := Lib.hid (BJ.out.on hb)
            have TJ := Lib.hid (hO.txt)
            clear hb hO
            refine hK _ _ (Lib.hid (BX.out.cell 1 rfl)).out (fun _ => ?_)
            clear hK K
            try simp only [Act.put, List.setIfInBounds_toArray, List.set_cons_succ, List.set_cons_zero]
            refine wpAnyH_ready (rs := [8]) (by kernel_rfl) (by simp) ?_
            refine AllReadyH.cons (o := ⟨some 32, .call { callee := .value (.func 44), args := #[.tmp 25, .tmp 31], argTypes := #[28, 28] }, 28, _, _, none⟩) rfl (fun K hK => ?_) AllReadyH.nil
            go_simp
            refine (rmac_walk KK _ am _ _ _ nj2 cj2 v3 TM1.out TJ.out (by have := HKL.out; have := HK1L.out; omega) (by have := HTL.out; have := HVL.out; have := HV1L.out; simp only [List.length_append, List.length_cons, List.length_nil]; omega)).mono ?_
            rintro e v4 ⟨am2, cm2, rfl, hO, hb⟩
            rw [show macL _ _ = K2 from HK2.out.symm] at hO
            have FM := Lib.hid (far_of hO (show w.heap.size + 2 ≤ _ by have := BY.out.lt; omega))
            have HB := Lib.hid (HB.out.trans (hb.mono HB.out.size))
            have BX := Lib.hid (BX.out.on hb)
            have BY := Lib.hid (BY.out.on hb)
            have TM1 := Lib.hid (TM1.out.on hb)
            have TN1 := Lib.hid (TN1.out.on hb)
            have BI := Lib.hid (BI.out.on hb)
            have TI := Lib.hid (TI.out.on hb)
            have BJ := Lib.hid (BJ.out.on hb)
            have TJ := Lib.hid (TJ.out.on hb)
            have TM := Lib.hid (hO.txt)
            clear hb hO
            refine hK _ _ (Lib.hid (BX.out.cell 1 rfl)).out (fun _ => ?_)
            clear hK K
            try simp only [Act.put, List.setIfInBounds_toArray, List.set_cons_succ, List.set_cons_zero]
            refine wpAnyH_take (i := 9) (oi := ⟨some 33, .fieldAddr 88 (.tmp 2) 0, _, _, _, none⟩) (v := .pointer (some ⟨w.heap.size, 0, none⟩)) rfl (by kernel_rfl) (by kernel_rfl) (by kernel_rfl) (fun _ _ _ h => h) (Or.inl ⟨by rfl, fun _ _ => by go_simp⟩) (Lib.hid (BX.out.cell 1 rfl)).out ?_
            try simp only [Act.put, List.setIfInBounds_toArray, List.set_cons_succ, List.set_cons_zero]
            refine wpAnyH_ready (rs := [10]) (by kernel_rfl) (by simp) ?_
            refine AllReadyH.cons (o := ⟨none, .store 28 (.tmp 33) (.tmp 32), 0, _, _, none⟩) rfl (fun K hK => ?_) AllReadyH.nil
            rw [if_pos (by rfl)]
            refine wp_store_slc (.tmp 33) (.tmp 32) (by rfl) w.heap.size 0 am2 32 cm2 (by rfl) (by rfl) BX.out (by simp) ?_
            intro xw hW p
            refine hK _ _ (p.cell 1 rfl) (fun _ => ?_)
            clear hK K
            have BX := Lib.hid (show Blk xw w.heap.size #[.slice am2 32 cm2, .slice an 32 cn, .int .i64 cnt] 88 from p)
            have BY := Lib.hid (hW.blk BY.out (by simp))
            have HB := Lib.hid (hW.below HB.out (Nat.le_refl _))
            have TM := Lib.hid (TM.out.far' (row_of_wrote hW) (fun q o e h => by have := FM.out q o e; simp at h; omega))
            have TN1 := Lib.hid (TN1.out.far' (row_of_wrote hW) (fun q o e h => by have := FN1.out q o e; simp at h; omega))
            clear hW p
            refine wpAnyH_done (by kernel_rfl) ?_ _
            have b0 := BX.out.cell 0 rfl
            have b1 := BX.out.cell 1 rfl
            go_wp2_with fail
            refine (rmac_walk K2 VV _ _ _ _ _ _ _ TM.out TN1.out (by have := HK1L.out; omega) (by have := HVL.out; have := HV1L.out; omega)).mono ?_
            rintro e u7 ⟨ao, co, rfl, hO, hb⟩
            rw [← HV2.out] at hO
            have FN := Lib.hid (far_of hO (show w.heap.size + 2 ≤ _ by have := BY.out.lt; omega))
            have TN := Lib.hid hO.txt
            have BX := Lib.hid (BX.out.on hb)
            have BY := Lib.hid (BY.out.on hb)
            have HB := Lib.hid (HB.out.trans (hb.mono HB.out.size))
            have TM := Lib.hid (TM.out.on hb)
            clear hb hO b0 b1
            go_wp2_with (first | (refine wpList_load_row rfl 88 (.tmp 2) rfl w.heap.size rfl 88 _ _ _ BX.out Tryd.underlying88 rfl size_ref5 ?_) | (refine wpList_store_abs rfl 88 (.tmp 4) (.tmp 40) (by rfl) (w.heap.size + 1) #[.slice am2 32 cm2, .slice ao 32 co, .int .i64 cnt] (by rfl) (by rfl) 88 _ BY.out size_ref5 (by rfl) (by simp [Value.oneCell']) ?_; intro W9 hW p9; have HB9 := Lib.hid (hW.below HB.out (Nat.le_succ _)); have TK9 := Lib.hid (TM.out.far' (row_of_wrote hW) (fun q o e h => by have := FM.out q o e; simp at h; omega)); have TV9 := Lib.hid (TN.out.far' (row_of_wrote hW) (fun q o e h => by have := FN.out q o e; simp at h; omega)); clear hW) | (refine wpList_store_slc rfl (.tmp 39) (.tmp 38) rfl w.heap.size 1 ao 32 co (by rfl) (by rfl) BX.out (by simp) ?_; intro u8 hW p; have BX := Lib.hid (show Blk u8 w.heap.size #[.slice am2 32 cm2, .slice ao 32 co, .int .i64 cnt] 88 from p); have BY := Lib.hid (hW.blk BY.out (by simp)); have HB := Lib.hid (hW.below HB.out (Nat.le_refl _)); have TM := Lib.hid (TM.out.far' (row_of_wrote hW) (fun q o e h => by have := FM.out q o e; simp at h; omega)); have TN := Lib.hid (TN.out.far' (row_of_wrote hW) (fun q o e h => by have := FN.out q o e; simp at h; omega)); have b0 := BX.out.cell 0 rfl; have b1 := BX.out.cell 1 rfl; clear hW p))
            refine bodyPost_ret (v := .agg #[.slice am2 32 cm2, .slice ao 32 co, .int .i64 cnt]) ?_ rfl ⟨_, _, _, _, _, _, rfl, ?_, ?_, (fun q o e => Nat.le_trans (by omega) (FM.out q o e)), (fun q o e => Nat.le_trans (by omega) (FN.out q o e)), HB9.out⟩
            · exact results_str rfl _ p9 rfl Tryd.underlying88 rfl size_ref5
            · have h := TK9.out
              rw [show K2 = updK k v t by unfold updK; rw [if_neg HTN.out, HK2.out, HVV.out, HKK.out]] at h
              exact h
            · have h := TV9.out
              rw [show V2 = updV k v t by unfold updV; rw [if_neg HTN.out, HV2.out, HK2.out, HVV.out, HKK.out]; unfold updK; rw [if_neg HTN.out]] at h
              exact h
          · go_simp
            have BI := Blk.new x0 #[.int .u8 1] 5
            have hb := below_one' x0 (.cells #[.int .u8 1] 5)
            generalize World.alloc x0 _ = v5 at *
            have HB := Lib.hid (HB.out.trans (hb.mono HB.out.size))
            have BX := Lib.hid (BX.out.on hb)
            have BY := Lib.hid (BY.out.on hb)
            have TM1 := Lib.hid (TM1.out.on hb)
            have TN1 := Lib.hid (TN1.out.on hb)
            replace BI := Lib.hid BI
            have TI := Lib.hid (by have h : Blk _ _ (barr [1]) _ := BI.out; exact Txt.of_blk h)
            clear hb
            refine hK _ _ (Lib.hid (BX.out.cell 1 rfl)).out (fun _ => ?_)
            clear hK K
            try simp only [Act.put, List.setIfInBounds_toArray, List.set_cons_succ, List.set_cons_zero]
            refine wpAnyH_ready (rs := [1, 6]) (by kernel_rfl) (by simp) ?_
            refine AllReadyH.cons (o := ⟨some 25, .load 28 (.tmp 24), 28, _, _, none⟩) rfl (fun K hK => ?_) (AllReadyH.cons (o := ⟨some 30, .buildSlice 35 3 #[(0, .tmp 27), (1, .tmp 28), (2, .tmp 29)], 35, _, _, none⟩) rfl (fun K hK => ?_) AllReadyH.nil)
            · rw [if_pos (by rfl)]
              refine wp_of_yields (yields_sl (.tmp 24) (by rfl) ⟨w.heap.size, 0, none⟩ (by rfl) (BX.out.cell 0 rfl)) ?_
              refine hK _ _ (Lib.hid (BX.out.cell 1 rfl)).out (fun _ => ?_)
              clear hK K
              try simp only [Act.put, List.setIfInBounds_toArray, List.set_cons_succ, List.set_cons_zero]
              refine wpAnyH_ready (rs := [6]) (by kernel_rfl) (by simp) ?_
              refine AllReadyH.cons (o := ⟨some 30, .buildSlice 35 3 #[(0, .tmp 27), (1, .tmp 28), (2, .tmp 29)], 35, _, _, none⟩) rfl (fun K hK => ?_) AllReadyH.nil
              go_simp
              have BJ := Blk.new v5 #[.slice an 32 cn, .slice (some ⟨x0.heap.size, 0, none⟩) 1 1, .slice a n c] 28
              have hb := below_one' v5 (.cells #[.slice an 32 cn, .slice (some ⟨x0.heap.size, 0, none⟩) 1 1, .slice a n c] 28)
              generalize World.alloc v5 _ = v6 at *
              have HB := Lib.hid (HB.out.trans (hb.mono HB.out.size))
              have BX := Lib.hid (BX.out.on hb)
              have BY := Lib.hid (BY.out.on hb)
              have TM1 := Lib.hid (TM1.out.on hb)
              have TN1 := Lib.hid (TN1.out.on hb)
              have BI := Lib.hid (BI.out.on hb)
              have TI := Lib.hid (TI.out.on hb)
              replace BJ := Lib.hid BJ
              clear hb
              refine hK _ _ (Lib.hid (BX.out.cell 1 rfl)).out (fun _ => ?_)
              clear hK K
              try simp only [Act.put, List.setIfInBounds_toArray, List.set_cons_succ, List.set_cons_zero]
              refine wpAnyH_ready (rs := [7]) (by kernel_rfl) (by simp) ?_
              refine AllReadyH.cons (o := ⟨some 31, .call { callee := .value (.func 36), args := #[.tmp 30], argTypes := #[35] }, 28, _, _, none⟩) rfl (fun K hK => ?_) AllReadyH.nil
              go_simp
              refine (join_blk3 v6 _ _ BJ.out TN1.out TI.out (HX.out.on HB.out) (by have := HTL.out; have := HVL.out; have := HV1L.out; simp only [List.length_cons, List.length_nil]; omega)).mono ?_
              rintro e v7 ⟨aj2, nj2, cj2, rfl, hO, hb⟩
              have HB := Lib.hid (HB.out.trans (hb.mono HB.out.size))
              have BX := Lib.hid (BX.out.on hb)
              have BY := Lib.hid (BY.out.on hb)
              have TM1 := Lib.hid (TM1.out.on hb)
              have TN1 := Lib.hid (TN1.out.on hb)
              have BI := Lib.hid (BI.out.on hb)
              have TI := Lib.hid (TI.out.on hb)
              have BJ := Lib.hid (BJ.out.on hb)
              have TJ := Lib.hid (hO.txt)
              clear hb hO
              refine hK _ _ (Lib.hid (BX.out.cell 1 rfl)).out (fun _ => ?_)
              clear hK K
              try simp only [Act.put, List.setIfInBounds_toArray, List.set_cons_succ, List.set_cons_zero]
              refine wpAnyH_ready (rs := [8]) (by kernel_rfl) (by simp) ?_
              refine AllReadyH.cons (o := ⟨some 32, .call { callee := .value (.func 44), args := #[.tmp 25, .tmp 31], argTypes := #[28, 28] }, 28, _, _, none⟩) rfl (fun K hK => ?_) AllReadyH.nil
              go_simp
              refine (rmac_walk KK _ am _ _ _ nj2 cj2 v7 TM1.out TJ.out (by have := HKL.out; have := HK1L.out; omega) (by have := HTL.out; have := HVL.out; have := HV1L.out; simp only [List.length_append, List.length_cons, List.length_nil]; omega)).mono ?_
              rintro e v8 ⟨am2, cm2, rfl, hO, hb⟩
              rw [show macL _ _ = K2 from HK2.out.symm] at hO
              have FM := Lib.hid (far_of hO (show w.heap.size + 2 ≤ _ by have := BY.out.lt; omega))
              have HB := Lib.hid (HB.out.trans (hb.mono HB.out.size))
              have BX := Lib.hid (BX.out.on hb)
              have BY := Lib.hid (BY.out.on hb)
              have TM1 := Lib.hid (TM1.out.on hb)
              have TN1 := Lib.hid (TN1.out.on hb)
              have BI := Lib.hid (BI.out.on hb)
              have TI := Lib.hid (TI.out.on hb)
              have BJ := Lib.hid (BJ.out.on hb)
              have TJ := Lib.hid (TJ.out.on hb)
              have TM := Lib.hid (hO.txt)
              clear hb hO
              refine hK _ _ (Lib.hid (BX.out.cell 1 rfl)).out (fun _ => ?_)
              clear hK K
              try simp only [Act.put, List.setIfInBounds_toArray, List.set_cons_succ, List.set_cons_zero]
              refine wpAnyH_take (i := 9) (oi := ⟨some 33, .fieldAddr 88 (.tmp 2) 0, _, _, _, none⟩) (v := .pointer (some ⟨w.heap.size, 0, none⟩)) rfl (by kernel_rfl) (by kernel_rfl) (by kernel_rfl) (fun _ _ _ h => h) (Or.inl ⟨by rfl, fun _ _ => by go_simp⟩) (Lib.hid (BX.out.cell 1 rfl)).out ?_
              try simp only [Act.put, List.setIfInBounds_toArray, List.set_cons_succ, List.set_cons_zero]
              refine wpAnyH_ready (rs := [10]) (by kernel_rfl) (by simp) ?_
              refine AllReadyH.cons (o := ⟨none, .store 28 (.tmp 33) (.tmp 32), 0, _, _, none⟩) rfl (fun K hK => ?_) AllReadyH.nil
              rw [if_pos (by rfl)]
              refine wp_store_slc (.tmp 33) (.tmp 32) (by rfl) w.heap.size 0 am2 32 cm2 (by rfl) (by rfl) BX.out (by simp) ?_
              intro xw hW p
              refine hK _ _ (p.cell 1 rfl) (fun _ => ?_)
              clear hK K
              have BX := Lib.hid (show Blk xw w.heap.size #[.slice am2 32 cm2, .slice an 32 cn, .int .i64 cnt] 88 from p)
              have BY := Lib.hid (hW.blk BY.out (by simp))
              have HB := Lib.hid (hW.below HB.out (Nat.le_refl _))
              have TM := Lib.hid (TM.out.far' (row_of_wrote hW) (fun q o e h => by have := FM.out q o e; simp at h; omega))
              have TN1 := Lib.hid (TN1.out.far' (row_of_wrote hW) (fun q o e h => by have := FN1.out q o e; simp at h; omega))
              clear hW p
              refine wpAnyH_done (by kernel_rfl) ?_ _
              have b0 := BX.out.cell 0 rfl
              have b1 := BX.out.cell 1 rfl
              go_wp2_with fail
              refine (rmac_walk K2 VV _ _ _ _ _ _ _ TM.out TN1.out (by have := HK1L.out; omega) (by have := HVL.out; have := HV1L.out; omega)).mono ?_
              rintro e u7 ⟨ao, co, rfl, hO, hb⟩
              rw [← HV2.out] at hO
              have FN := Lib.hid (far_of hO (show w.heap.size + 2 ≤ _ by have := BY.out.lt; omega))
              have TN := Lib.hid hO.txt
              have BX := Lib.hid (BX.out.on hb)
              have BY := Lib.hid (BY.out.on hb)
              have HB := Lib.hid (HB.out.trans (hb.mono HB.out.size))
              have TM := Lib.hid (TM.out.on hb)
              clear hb hO b0 b1
              go_wp2_with (first | (refine wpList_load_row rfl 88 (.tmp 2) rfl w.heap.size rfl 88 _ _ _ BX.out Tryd.underlying88 rfl size_ref5 ?_) | (refine wpList_store_abs rfl 88 (.tmp 4) (.tmp 40) (by rfl) (w.heap.size + 1) #[.slice am2 32 cm2, .slice ao 32 co, .int .i64 cnt] (by rfl) (by rfl) 88 _ BY.out size_ref5 (by rfl) (by simp [Value.oneCell']) ?_; intro W9 hW p9; have HB9 := Lib.hid (hW.below HB.out (Nat.le_succ _)); have TK9 := Lib.hid (TM.out.far' (row_of_wrote hW) (fun q o e h => by have := FM.out q o e; simp at h; omega)); have TV9 := Lib.hid (TN.out.far' (row_of_wrote hW) (fun q o e h => by have := FN.out q o e; simp at h; omega)); clear hW) | (refine wpList_store_slc rfl (.tmp 39) (.tmp 38) rfl w.heap.size 1 ao 32 co (by rfl) (by rfl) BX.out (by simp) ?_; intro u8 hW p; have BX := Lib.hid (show Blk u8 w.heap.size #[.slice am2 32 cm2, .slice ao 32 co, .int .i64 cnt] 88 from p); have BY := Lib.hid (hW.blk BY.out (by simp)); have HB := Lib.hid (hW.below HB.out (Nat.le_refl _)); have TM := Lib.hid (TM.out.far' (row_of_wrote hW) (fun q o e h => by have := FM.out q o e; simp at h; omega)); have TN := Lib.hid (TN.out.far' (row_of_wrote hW) (fun q o e h => by have := FN.out q o e; simp at h; omega)); have b0 := BX.out.cell 0 rfl; have b1 := BX.out.cell 1 rfl; clear hW p))
              refine bodyPost_ret (v := .agg #[.slice am2 32 cm2, .slice ao 32 co, .int .i64 cnt]) ?_ rfl ⟨_, _, _, _, _, _, rfl, ?_, ?_, (fun q o e => Nat.le_trans (by omega) (FM.out q o e)), (fun q o e => Nat.le_trans (by omega) (FN.out q o e)), HB9.out⟩
              · exact results_str rfl _ p9 rfl Tryd.underlying88 rfl size_ref5
              · have h := TK9.out
                rw [show K2 = updK k v t by unfold updK; rw [if_neg HTN.out, HK2.out, HVV.out, HKK.out]] at h
                exact h
              · have h := TV9.out
                rw [show V2 = updV k v t by unfold updV; rw [if_neg HTN.out, HV2.out, HK2.out, HVV.out, HKK.out]; unfold updK; rw [if_neg HTN.out]] at h
                exact h
            · go_simp
              have BJ := Blk.new v5 #[.slice an 32 cn, .slice (some ⟨x0.heap.size, 0, none⟩) 1 1, .slice a n c] 28
              have hb := below_one' v5 (.cells #[.slice an 32 cn, .slice (some ⟨x0.heap.size, 0, none⟩) 1 1, .slice a n c] 28)
              generalize World.alloc v5 _ = v9 at *
              have HB := Lib.hid (HB.out.trans (hb.mono HB.out.size))
              have BX := Lib.hid (BX.out.on hb)
              have BY := Lib.hid (BY.out.on hb)
              have TM1 := Lib.hid (TM1.out.on hb)
              have TN1 := Lib.hid (TN1.out.on hb)
              have BI := Lib.hid (BI.out.on hb)
              have TI := Lib.hid (TI.out.on hb)
              replace BJ := Lib.hid BJ
              clear hb
              refine hK _ _ (Lib.hid (BX.out.cell 1 rfl)).out (fun _ => ?_)
              clear hK K
              try simp only [Act.put, List.setIfInBounds_toArray, List.set_cons_succ, List.set_cons_zero]
              refine wpAnyH_ready (rs := [1, 7]) (by kernel_rfl) (by simp) ?_
              refine AllReadyH.cons (o := ⟨some 25, .load 28 (.tmp 24), 28, _, _, none⟩) rfl (fun K hK => ?_) (AllReadyH.cons (o := ⟨some 31, .call { callee := .value (.func 36), args := #[.tmp 30], argTypes := #[35] }, 28, _, _, none⟩) rfl (fun K hK => ?_) AllReadyH.nil)
              · rw [if_pos (by rfl)]
                refine wp_of_yields (yields_sl (.tmp 24) (by rfl) ⟨w.heap.size, 0, none⟩ (by rfl) (BX.out.cell 0 rfl)) ?_
                refine hK _ _ (Lib.hid (BX.out.cell 1 rfl)).out (fun _ => ?_)
                clear hK K
                try simp only [Act.put, List.setIfInBounds_toArray, List.set_cons_succ, List.set_cons_zero]
                refine wpAnyH_ready (rs := [7]) (by kernel_rfl) (by simp) ?_
                refine AllReadyH.cons (o := ⟨some 31, .call { callee := .value (.func 36), args := #[.tmp 30], argTypes := #[35] }, 28, _, _, none⟩) rfl (fun K hK => ?_) AllReadyH.nil
                go_simp
                refine (join_blk3 v9 _ _ BJ.out TN1.out TI.out (HX.out.on HB.out) (by have := HTL.out; have := HVL.out; have := HV1L.out; simp only [List.length_cons, List.length_nil]; omega)).mono ?_
                rintro e v10 ⟨aj2, nj2, cj2, rfl, hO, hb⟩
                have HB := Lib.hid (HB.out.trans (hb.mono HB.out.size))
                have BX := Lib.hid (BX.out.on hb)
                have BY := Lib.hid (BY.out.on hb)
                have TM1 := Lib.hid (TM1.out.on hb)
                have TN1 := Lib.hid (TN1.out.on hb)
                have BI := Lib.hid (BI.out.on hb)
                have TI := Lib.hid (TI.out.on hb)
                have BJ := Lib.hid (BJ.out.on hb)
                have TJ := Lib.hid (hO.txt)
                clear hb hO
                refine hK _ _ (Lib.hid (BX.out.cell 1 rfl)).out (fun _ => ?_)
                clear hK K
                try simp only [Act.put, List.setIfInBounds_toArray, List.set_cons_succ, List.set_cons_zero]
                refine wpAnyH_ready (rs := [8]) (by kernel_rfl) (by simp) ?_
                refine AllReadyH.cons (o := ⟨some 32, .call { callee := .value (.func 44), args := #[.tmp 25, .tmp 31], argTypes := #[28, 28] }, 28, _, _, none⟩) rfl (fun K hK => ?_) AllReadyH.nil
                go_simp
                refine (rmac_walk KK _ am _ _ _ nj2 cj2 v10 TM1.out TJ.out (by have := HKL.out; have := HK1L.out; omega) (by have := HTL.out; have := HVL.out; have := HV1L.out; simp only [List.length_append, List.length_cons, List.length_nil]; omega)).mono ?_
                rintro e v11 ⟨am2, cm2, rfl, hO, hb⟩
                rw [show macL _ _ = K2 from HK2.out.symm] at hO
                have FM := Lib.hid (far_of hO (show w.heap.size + 2 ≤ _ by have := BY.out.lt; omega))
                have HB := Lib.hid (HB.out.trans (hb.mono HB.out.size))
                have BX := Lib.hid (BX.out.on hb)
                have BY := Lib.hid (BY.out.on hb)
                have TM1 := Lib.hid (TM1.out.on hb)
                have TN1 := Lib.hid (TN1.out.on hb)
                have BI := Lib.hid (BI.out.on hb)
                have TI := Lib.hid (TI.out.on hb)
                have BJ := Lib.hid (BJ.out.on hb)
                have TJ := Lib.hid (TJ.out.on hb)
                have TM := Lib.hid (hO.txt)
                clear hb hO
                refine hK _ _ (Lib.hid (BX.out.cell 1 rfl)).out (fun _ => ?_)
                clear hK K
                try simp only [Act.put, List.setIfInBounds_toArray, List.set_cons_succ, List.set_cons_zero]
                refine wpAnyH_take (i := 9) (oi := ⟨some 33, .fieldAddr 88 (.tmp 2) 0, _, _, _, none⟩) (v := .pointer (some ⟨w.heap.size, 0, none⟩)) rfl (by kernel_rfl) (by kernel_rfl) (by kernel_rfl) (fun _ _ _ h => h) (Or.inl ⟨by rfl, fun _ _ => by go_simp⟩) (Lib.hid (BX.out.cell 1 rfl)).out ?_
                try simp only [Act.put, List.setIfInBounds_toArray, List.set_cons_succ, List.set_cons_zero]
                refine wpAnyH_ready (rs := [10]) (by kernel_rfl) (by simp) ?_
                refine AllReadyH.cons (o := ⟨none, .store 28 (.tmp 33) (.tmp 32), 0, _, _, none⟩) rfl (fun K hK => ?_) AllReadyH.nil
                rw [if_pos (by rfl)]
                refine wp_store_slc (.tmp 33) (.tmp 32) (by rfl) w.heap.size 0 am2 32 cm2 (by rfl) (by rfl) BX.out (by simp) ?_
                intro xw hW p
                refine hK _ _ (p.cell 1 rfl) (fun _ => ?_)
                clear hK K
                have BX := Lib.hid (show Blk xw w.heap.size #[.slice am2 32 cm2, .slice an 32 cn, .int .i64 cnt] 88 from p)
                have BY := Lib.hid (hW.blk BY.out (by simp))
                have HB := Lib.hid (hW.below HB.out (Nat.le_refl _))
                have TM := Lib.hid (TM.out.far' (row_of_wrote hW) (fun q o e h => by have := FM.out q o e; simp at h; omega))
                have TN1 := Lib.hid (TN1.out.far' (row_of_wrote hW) (fun q o e h => by have := FN1.out q o e; simp at h; omega))
                clear hW p
                refine wpAnyH_done (by kernel_rfl) ?_ _
                have b0 := BX.out.cell 0 rfl
                have b1 := BX.out.cell 1 rfl
                go_wp2_with fail
                refine (rmac_walk K2 VV _ _ _ _ _ _ _ TM.out TN1.out (by have := HK1L.out; omega) (by have := HVL.out; have := HV1L.out; omega)).mono ?_
                rintro e u7 ⟨ao, co, rfl, hO, hb⟩
                rw [← HV2.out] at hO
                have FN := Lib.hid (far_of hO (show w.heap.size + 2 ≤ _ by have := BY.out.lt; omega))
                have TN := Lib.hid hO.txt
                have BX := Lib.hid (BX.out.on hb)
                have BY := Lib.hid (BY.out.on hb)
                have HB := Lib.hid (HB.out.trans (hb.mono HB.out.size))
                have TM := Lib.hid (TM.out.on hb)
                clear hb hO b0 b1
                go_wp2_with (first | (refine wpList_load_row rfl 88 (.tmp 2) rfl w.heap.size rfl 88 _ _ _ BX.out Tryd.underlying88 rfl size_ref5 ?_) | (refine wpList_store_abs rfl 88 (.tmp 4) (.tmp 40) (by rfl) (w.heap.size + 1) #[.slice am2 32 cm2, .slice ao 32 co, .int .i64 cnt] (by rfl) (by rfl) 88 _ BY.out size_ref5 (by rfl) (by simp [Value.oneCell']) ?_; intro W9 hW p9; have HB9 := Lib.hid (hW.below HB.out (Nat.le_succ _)); have TK9 := Lib.hid (TM.out.far' (row_of_wrote hW) (fun q o e h => by have := FM.out q o e; simp at h; omega)); have TV9 := Lib.hid (TN.out.far' (row_of_wrote hW) (fun q o e h => by have := FN.out q o e; simp at h; omega)); clear hW) | (refine wpList_store_slc rfl (.tmp 39) (.tmp 38) rfl w.heap.size 1 ao 32 co (by rfl) (by rfl) BX.out (by simp) ?_; intro u8 hW p; have BX := Lib.hid (show Blk u8 w.heap.size #[.slice am2 32 cm2, .slice ao 32 co, .int .i64 cnt] 88 from p); have BY := Lib.hid (hW.blk BY.out (by simp)); have HB := Lib.hid (hW.below HB.out (Nat.le_refl _)); have TM := Lib.hid (TM.out.far' (row_of_wrote hW) (fun q o e h => by have := FM.out q o e; simp at h; omega)); have TN := Lib.hid (TN.out.far' (row_of_wrote hW) (fun q o e h => by have := FN.out q o e; simp at h; omega)); have b0 := BX.out.cell 0 rfl; have b1 := BX.out.cell 1 rfl; clear hW p))
                refine bodyPost_ret (v := .agg #[.slice am2 32 cm2, .slice ao 32 co, .int .i64 cnt]) ?_ rfl ⟨_, _, _, _, _, _, rfl, ?_, ?_, (fun q o e => Nat.le_trans (by omega) (FM.out q o e)), (fun q o e => Nat.le_trans (by omega) (FN.out q o e)), HB9.out⟩
                · exact results_str rfl _ p9 rfl Tryd.underlying88 rfl size_ref5
                · have h := TK9.out
                  rw [show K2 = updK k v t by unfold updK; rw [if_neg HTN.out, HK2.out, HVV.out, HKK.out]] at h
                  exact h
                · have h := TV9.out
                  rw [show V2 = updV k v t by unfold updV; rw [if_neg HTN.out, HV2.out, HK2.out, HVV.out, HKK.out]; unfold updK; rw [if_neg HTN.out]] at h
                  exact h
              · go_simp
                refine (join_blk3 v9 _ _ BJ.out TN1.out TI.out (HX.out.on HB.out) (by have := HTL.out; have := HVL.out; have := HV1L.out; simp only [List.length_cons, List.length_nil]; omega)).mono ?_
                rintro e v12 ⟨aj2, nj2, cj2, rfl, hO, hb⟩
                have HB := Lib.hid (HB.out.trans (hb.mono HB.out.size))
                have BX := Lib.hid (BX.out.on hb)
                have BY := Lib.hid (BY.out.on hb)
                have TM1 := Lib.hid (TM1.out.on hb)
                have TN1 := Lib.hid (TN1.out.on hb)
                have BI := Lib.hid (BI.out.on hb)
                have TI := Lib.hid (TI.out.on hb)
                have BJ := Lib.hid (BJ.out.on hb)
                have TJ := Lib.hid (hO.txt)
                clear hb hO
                refine hK _ _ (Lib.hid (BX.out.cell 1 rfl)).out (fun _ => ?_)
                clear hK K
                try simp only [Act.put, List.setIfInBounds_toArray, List.set_cons_succ, List.set_cons_zero]
                refine wpAnyH_ready (rs := [1]) (by kernel_rfl) (by simp) ?_
                refine AllReadyH.cons (o := ⟨some 25, .load 28 (.tmp 24), 28, _, _, none⟩) rfl (fun K hK => ?_) AllReadyH.nil
                rw [if_pos (by rfl)]
                refine wp_of_yields (yields_sl (.tmp 24) (by rfl) ⟨w.heap.size, 0, none⟩ (by rfl) (BX.out.cell 0 rfl)) ?_
                refine hK _ _ (Lib.hid (BX.out.cell 1 rfl)).out (fun _ => ?_)
                clear hK K
                try simp only [Act.put, List.setIfInBounds_toArray, List.set_cons_succ, List.set_cons_zero]
                refine wpAnyH_ready (rs := [8]) (by kernel_rfl) (by simp) ?_
                refine AllReadyH.cons (o := ⟨some 32, .call { callee := .value (.func 44), args := #[.tmp 25, .tmp 31], argTypes := #[28, 28] }, 28, _, _, none⟩) rfl (fun K hK => ?_) AllReadyH.nil
                go_simp
                refine (rmac_walk KK _ am _ _ _ nj2 cj2 v12 TM1.out TJ.out (by have := HKL.out; have := HK1L.out; omega) (by have := HTL.out; have := HVL.out; have := HV1L.out; simp only [List.length_append, List.length_cons, List.length_nil]; omega)).mono ?_
                rintro e v13 ⟨am2, cm2, rfl, hO, hb⟩
                rw [show macL _ _ = K2 from HK2.out.symm] at hO
                have FM := Lib.hid (far_of hO (show w.heap.size + 2 ≤ _ by have := BY.out.lt; omega))
                have HB := Lib.hid (HB.out.trans (hb.mono HB.out.size))
                have BX := Lib.hid (BX.out.on hb)
                have BY := Lib.hid (BY.out.on hb)
                have TM1 := Lib.hid (TM1.out.on hb)
                have TN1 := Lib.hid (TN1.out.on hb)
                have BI := Lib.hid (BI.out.on hb)
                have TI := Lib.hid (TI.out.on hb)
                have BJ := Lib.hid (BJ.out.on hb)
                have TJ := Lib.hid (TJ.out.on hb)
                have TM := Lib.hid (hO.txt)
                clear hb hO
                refine hK _ _ (Lib.hid (BX.out.cell 1 rfl)).out (fun _ => ?_)
                clear hK K
                try simp only [Act.put, List.setIfInBounds_toArray, List.set_cons_succ, List.set_cons_zero]
                refine wpAnyH_take (i := 9) (oi := ⟨some 33, .fieldAddr 88 (.tmp 2) 0, _, _, _, none⟩) (v := .pointer (some ⟨w.heap.size, 0, none⟩)) rfl (by kernel_rfl) (by kernel_rfl) (by kernel_rfl) (fun _ _ _ h => h) (Or.inl ⟨by rfl, fun _ _ => by go_simp⟩) (Lib.hid (BX.out.cell 1 rfl)).out ?_
                try simp only [Act.put, List.setIfInBounds_toArray, List.set_cons_succ, List.set_cons_zero]
                refine wpAnyH_ready (rs := [10]) (by kernel_rfl) (by simp) ?_
                refine AllReadyH.cons (o := ⟨none, .store 28 (.tmp 33) (.tmp 32), 0, _, _, none⟩) rfl (fun K hK => ?_) AllReadyH.nil
                rw [if_pos (by rfl)]
                refine wp_store_slc (.tmp 33) (.tmp 32) (by rfl) w.heap.size 0 am2 32 cm2 (by rfl) (by rfl) BX.out (by simp) ?_
                intro xw hW p
                refine hK _ _ (p.cell 1 rfl) (fun _ => ?_)
                clear hK K
                have BX := Lib.hid (show Blk xw w.heap.size #[.slice am2 32 cm2, .slice an 32 cn, .int .i64 cnt] 88 from p)
                have BY := Lib.hid (hW.blk BY.out (by simp))
                have HB := Lib.hid (hW.below HB.out (Nat.le_refl _))
                have TM := Lib.hid (TM.out.far' (row_of_wrote hW) (fun q o e h => by have := FM.out q o e; simp at h; omega))
                have TN1 := Lib.hid (TN1.out.far' (row_of_wrote hW) (fun q o e h => by have := FN1.out q o e; simp at h; omega))
                clear hW p
                refine wpAnyH_done (by kernel_rfl) ?_ _
                have b0 := BX.out.cell 0 rfl
                have b1 := BX.out.cell 1 rfl
                go_wp2_with fail
                refine (rmac_walk K2 VV _ _ _ _ _ _ _ TM.out TN1.out (by have := HK1L.out; omega) (by have := HVL.out; have := HV1L.out; omega)).mono ?_
                rintro e u7 ⟨ao, co, rfl, hO, hb⟩
                rw [← HV2.out] at hO
                have FN := Lib.hid (far_of hO (show w.heap.size + 2 ≤ _ by have := BY.out.lt; omega))
                have TN := Lib.hid hO.txt
                have BX := Lib.hid (BX.out.on hb)
                have BY := Lib.hid (BY.out.on hb)
                have HB := Lib.hid (HB.out.trans (hb.mono HB.out.size))
                have TM := Lib.hid (TM.out.on hb)
                clear hb hO b0 b1
                go_wp2_with (first | (refine wpList_load_row rfl 88 (.tmp 2) rfl w.heap.size rfl 88 _ _ _ BX.out Tryd.underlying88 rfl size_ref5 ?_) | (refine wpList_store_abs rfl 88 (.tmp 4) (.tmp 40) (by rfl) (w.heap.size + 1) #[.slice am2 32 cm2, .slice ao 32 co, .int .i64 cnt] (by rfl) (by rfl) 88 _ BY.out size_ref5 (by rfl) (by simp [Value.oneCell']) ?_; intro W9 hW p9; have HB9 := Lib.hid (hW.below HB.out (Nat.le_succ _)); have TK9 := Lib.hid (TM.out.far' (row_of_wrote hW) (fun q o e h => by have := FM.out q o e; simp at h; omega)); have TV9 := Lib.hid (TN.out.far' (row_of_wrote hW) (fun q o e h => by have := FN.out q o e; simp at h; omega)); clear hW) | (refine wpList_store_slc rfl (.tmp 39) (.tmp 38) rfl w.heap.size 1 ao 32 co (by rfl) (by rfl) BX.out (by simp) ?_; intro u8 hW p; have BX := Lib.hid (show Blk u8 w.heap.size #[.slice am2 32 cm2, .slice ao 32 co, .int .i64 cnt] 88 from p); have BY := Lib.hid (hW.blk BY.out (by simp)); have HB := Lib.hid (hW.below HB.out (Nat.le_refl _)); have TM := Lib.hid (TM.out.far' (row_of_wrote hW) (fun q o e h => by have := FM.out q o e; simp at h; omega)); have TN := Lib.hid (TN.out.far' (row_of_wrote hW) (fun q o e h => by have := FN.out q o e; simp at h; omega)); have b0 := BX.out.cell 0 rfl; have b1 := BX.out.cell 1 rfl; clear hW p))
                refine bodyPost_ret (v := .agg #[.slice am2 32 cm2, .slice ao 32 co, .int .i64 cnt]) ?_ rfl ⟨_, _, _, _, _, _, rfl, ?_, ?_, (fun q o e => Nat.le_trans (by omega) (FM.out q o e)), (fun q o e => Nat.le_trans (by omega) (FN.out q o e)), HB9.out⟩
                · exact results_str rfl _ p9 rfl Tryd.underlying88 rfl size_ref5
                · have h := TK9.out
                  rw [show K2 = updK k v t by unfold updK; rw [if_neg HTN.out, HK2.out, HVV.out, HKK.out]] at h
                  exact h
                · have h := TV9.out
                  rw [show V2 = updV k v t by unfold updV; rw [if_neg HTN.out, HV2.out, HK2.out, HVV.out, HKK.out]; unfold updK; rw [if_neg HTN.out]] at h
                  exact h
end Go.Proofs.YtgbahfggnbpnmaaDoor
