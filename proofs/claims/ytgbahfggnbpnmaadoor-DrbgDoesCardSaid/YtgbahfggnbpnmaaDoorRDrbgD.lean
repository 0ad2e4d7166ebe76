import Derived.Test.YtgbahfggnbpnmaaDoorRDrbgB
/-
  The reference's generator: Reseed and Draw.
-/
namespace Go.Proofs.YtgbahfggnbpnmaaDoor
open Go.RowKit
set_option maxRecDepth 100000 in
set_option maxHeartbeats 1000000 in
theorem rdraw_err (ka va b : Option Addr) (kn kc vn vc m d : Nat) (cnt n : Int) (w : World) (he : drawE n m cnt ≠ 0) :
    Calls Tryd.prog 120 #[.agg #[.slice ka kn kc, .slice va vn vc, .int .i64 cnt], .int .i64 n, .slice b m d] w fun e w' => e = .returned (.tuple #[.slice none 0 0, .agg #[.slice ka kn kc, .slice va vn vc, .int .i64 cnt], .int .i64 (drawE n m cnt)]) ∧ Below w.heap.size w w' := by
  have HB := Lib.hid (show Below w.heap.size w ((w.alloc (.cells #[.slice ka kn kc, .slice va vn vc, .int .i64 cnt] 88)).alloc (.cells #[.slice ka kn kc, .slice va vn vc, .int .i64 cnt] 88)).drew from (below_two w _ _).drew)
  have BY := Lib.hid (show Blk ((w.alloc (.cells #[.slice ka kn kc, .slice va vn vc, .int .i64 cnt] 88)).alloc (.cells #[.slice ka kn kc, .slice va vn vc, .int .i64 cnt] 88)).drew (w.heap.size + 1) #[.slice ka kn kc, .slice va vn vc, .int .i64 cnt] 88 from (Blk.new' (w.alloc (.cells #[.slice ka kn kc, .slice va vn vc, .int .i64 cnt] 88)) #[.slice ka kn kc, .slice va vn vc, .int .i64 cnt] 88 (g := w.heap.size + 1) (by simp)).drew)
  by_cases h1 : n < 0
  · rw [show drawE n m cnt = 1 by unfold drawE; rw [if_pos h1]]
    clear he
    go_enter Tryd.func120, Tryd.ntmps120
    go_wp2
    go_region
    go_wp2
    refine bodyPost_ret (v := .tuple #[.slice none 0 0, .agg #[.slice ka kn kc, .slice va vn vc, .int .i64 cnt], .int .i64 1]) ?_ rfl ⟨rfl, HB.out⟩
    exact (results_tct rfl _ BY.out (by rfl) Tryd.underlying88 rfl size_ref5).trans rfl
  · by_cases h2 : 65536 < n
    · rw [show drawE n m cnt = 3 by unfold drawE; rw [if_neg h1, if_pos (.inl h2)]]
      clear he
      go_enter Tryd.func120, Tryd.ntmps120
      go_wp2
      go_region
      go_wp2
      refine bodyPost_ret (v := .tuple #[.slice none 0 0, .agg #[.slice ka kn kc, .slice va vn vc, .int .i64 cnt], .int .i64 3]) ?_ rfl ⟨rfl, HB.out⟩
      exact (results_tct rfl _ BY.out (by rfl) Tryd.underlying88 rfl size_ref5).trans rfl
    · by_cases h3 : 4096 < m
      · rw [show drawE n m cnt = 3 by unfold drawE; rw [if_neg h1, if_pos (.inr h3)]]
        clear he
        have h3' : (4096 : Int) < (m : Int) := by omega
        go_enter Tryd.func120, Tryd.ntmps120
        go_wp2
        go_region
        go_wp2
        refine bodyPost_ret (v := .tuple #[.slice none 0 0, .agg #[.slice ka kn kc, .slice va vn vc, .int .i64 cnt], .int .i64 3]) ?_ rfl ⟨rfl, HB.out⟩
        exact (results_tct rfl _ BY.out (by rfl) Tryd.underlying88 rfl size_ref5).trans rfl
      · by_cases h4 : 1024 < cnt
        · rw [show drawE n m cnt = 51 by unfold drawE; rw [if_neg h1, if_neg (by omega), if_pos h4]]
          clear he
          have h3' : ¬ (4096 : Int) < (m : Int) := by omega
          go_enter Tryd.func120, Tryd.ntmps120
          go_wp2
          go_region
          go_wp2
          refine bodyPost_ret (v := .tuple #[.slice none 0 0, .agg #[.slice ka kn kc, .slice va vn vc, .int .i64 cnt], .int .i64 51]) ?_ rfl ⟨rfl, HB.out⟩
          exact (results_tct rfl _ BY.out (by rfl) Tryd.underlying88 rfl size_ref5).trans rfl
        · exact absurd (by unfold drawE; rw [if_neg h1, if_neg (by omega), if_neg h4]) he
set_option maxRecDepth 100000 in
set_option maxHeartbeats 1000000 in
theorem rreseed_err (ent add : List UInt8) (ka va a b : Option Addr) (kn kc vn vc n c m d : Nat) (cnt : Int) (w : World) (hE : Txt w a n c ent) (hA : Txt w b m d add) (he : mayE ent [add] ≠ 0) :
    Calls Tryd.prog 119 #[.agg #[.slice ka kn kc, .slice va vn vc, .int .i64 cnt], .slice a n c, .slice b m d] w fun e w' => e = .returned (.tuple #[.agg #[.slice ka kn kc, .slice va vn vc, .int .i64 cnt], .int .i64 (mayE ent [add])]) ∧ Below w.heap.size w w' := by
  obtain ⟨er, her⟩ : ∃ z, z = mayE ent [add] := ⟨_, rfl⟩
  rw [← her] at he ⊢
  have hb3 := (below_two w (.cells #[.slice ka kn kc, .slice va vn vc, .int .i64 cnt] 88) (.cells #[.slice none 0 0, .slice none 0 0, .int .i64 0] 88)).trans ((below_one' _ (.cells #[.slice b m d] 28)).mono (by simp; omega))
  have BX := Lib.hid (((Blk.new w #[.slice ka kn kc, .slice va vn vc, .int .i64 cnt] 88).alloc (.cells #[.slice none 0 0, .slice none 0 0, .int .i64 0] 88)).alloc (.cells #[.slice b m d] 28))
  have BY := Lib.hid ((Blk.new' (w.alloc (.cells #[.slice ka kn kc, .slice va vn vc, .int .i64 cnt] 88)) #[.slice none 0 0, .slice none 0 0, .int .i64 0] 88 (g := w.heap.size + 1) (by simp)).alloc (.cells #[.slice b m d] 28))
  have HE := Lib.hid (hE.on hb3)
  have HP := Lib.hid ((hA.on hb3).parts1 (Blk.new' ((w.alloc (.cells #[.slice ka kn kc, .slice va vn vc, .int .i64 cnt] 88)).alloc (.cells #[.slice none 0 0, .slice none 0 0, .int .i64 0] 88)) #[.slice b m d] 28 (g := w.heap.size + 2) (by simp)))
  have HB := Lib.hid hb3
  have HER := Lib.hid her
  clear hE hA hb3 her
  go_enter Tryd.func119, Tryd.ntmps119
  go_wp2_with fail
  refine (rfits_walk ent [add] _ _ _ _ 1 1 _ HE.out rfl HP.out (by simp)).mono ?_
  rintro e w2 ⟨he2, rfl⟩
  rw [← HER.out] at he2
  subst he2
  go_wp2_with (first | (refine wpList_load_row rfl 88 (.tmp 3) rfl w.heap.size rfl 88 _ _ _ BX.out Tryd.underlying88 rfl size_ref5 ?_) | (refine wpList_store_abs rfl 88 (.tmp 6) (.tmp 15) (by rfl) (w.heap.size + 1) #[.slice ka kn kc, .slice va vn vc, .int .i64 cnt] (by rfl) (by rfl) 88 _ BY.out size_ref5 (by rfl) (by simp [Value.oneCell']) ?_; intro W9 hW p9; have HB9 := Lib.hid (hW.below HB.out (Nat.le_succ _)); clear hW))
  refine bodyPost_ret (v := .tuple #[.agg #[.slice ka kn kc, .slice va vn vc, .int .i64 cnt], .int .i64 er]) ?_ rfl ⟨rfl, HB9.out⟩
  exact (results_st_tmp rfl _ p9 (by rfl) Tryd.underlying88 rfl size_ref5).trans rfl
set_option maxRecDepth 100000 in
set_option maxHeartbeats 1000000 in
theorem rreseed_walk (k v ent add : List UInt8) (ka va a b : Option Addr) (kn kc vn vc n c m d : Nat) (cnt : Int) (w : World) (hK : Txt w ka kn kc k) (hV : Txt w va vn vc v) (hE : Txt w a n c ent) (hA : Txt w b m d add) (hkl : k.length = 32) (hvl : v.length = 32) (he : mayE ent [add] = 0) :
    Calls Tryd.prog 119 #[.agg #[.slice ka kn kc, .slice va vn vc, .int .i64 cnt], .slice a n c, .slice b m d] w fun e w' => ∃ kx kxn kxc vx vxn vxc, e = .returned (.tuple #[.agg #[.slice kx kxn kxc, .slice vx vxn vxc, .int .i64 1], .int .i64 0]) ∧ Txt w' kx kxn kxc (updK k v (ent ++ add)) ∧ Txt w' vx vxn vxc (updV k v (ent ++ add)) ∧ (∀ q o, kx = some ⟨q, o, none⟩ → w.heap.size ≤ q) ∧ (∀ q o, vx = some ⟨q, o, none⟩ → w.heap.size ≤ q) ∧ Below w.heap.size w w' := by
  have hb3 := (below_two w (.cells #[.slice ka kn kc, .slice va vn vc, .int .i64 cnt] 88) (.cells #[.slice none 0 0, .slice none 0 0, .int .i64 0] 88)).trans ((below_one' _ (.cells #[.slice b m d] 28)).mono (by simp; omega))
  have BX := Lib.hid (((Blk.new w #[.slice ka kn kc, .slice va vn vc, .int .i64 cnt] 88).alloc (.cells #[.slice none 0 0, .slice none 0 0, .int .i64 0] 88)).alloc (.cells #[.slice b m d] 28))
  have BY := Lib.hid ((Blk.new' (w.alloc (.cells #[.slice ka kn kc, .slice va vn vc, .int .i64 cnt] 88)) #[.slice none 0 0, .slice none 0 0, .int .i64 0] 88 (g := w.heap.size + 1) (by simp)).alloc (.cells #[.slice b m d] 28))
  have HE := Lib.hid (hE.on hb3)
  have HP := Lib.hid ((hA.on hb3).parts1 (Blk.new' ((w.alloc (.cells #[.slice ka kn kc, .slice va vn vc, .int .i64 cnt] 88)).alloc (.cells #[.slice none 0 0, .slice none 0 0, .int .i64 0] 88)) #[.slice b m d] 28 (g := w.heap.size + 2) (by simp)))
  have HB := Lib.hid hb3
  have HK0 := Lib.hid hK
  have HV0 := Lib.hid hV
  have HE0 := Lib.hid hE
  have HA0 := Lib.hid hA
  have HKL := Lib.hid hkl
  have HVL := Lib.hid hvl
  have HLn := Lib.hid (mayE_len he)
  have HER := Lib.hid he
  clear hE hA hb3 he hK hV hkl hvl
  go_enter Tryd.func119, Tryd.ntmps119
  go_wp2_with fail
  refine (rfits_walk ent [add] _ _ _ _ 1 1 _ HE.out rfl HP.out (by simp)).mono ?_
  rintro e w' ⟨he2, hw⟩
  obtain ⟨w3, rfl⟩ : ∃ w3, w3 = w' := ⟨_, rfl⟩
  rw [HER.out] at he2
  subst he2
  rw [hw] at BX BY HB
  clear HE HP hw
  go_wp2
  refine wp_region_held_drew (S := fun _ => True) (by kernel_rfl) trivial (fun _ => ?_)
  have HTR := Lib.hid trivial
  have hb : Below w3.heap.size w3 (World.drew w3) := (Below.refl _ _).drew
  have HB := Lib.hid (HB.out.trans (hb.mono HB.out.size))
  have BX := Lib.hid (BX.out.on hb)
  have BY := Lib.hid (BY.out.on hb)
  clear hb
  generalize World.drew w3 = v0 at *
  try simp only [Act.put, List.setIfInBounds_toArray, List.set_cons_succ, List.set_cons_zero]
  refine wpAnyH_take (i := 1) (oi := ⟨some 18, .move (.tmp 1), 28, _, _, none⟩) (v := .slice a n c) rfl (by kernel_rfl) (by kernel_rfl) (by kernel_rfl) (fun _ _ _ h => h) (Or.inl ⟨by rfl, fun _ _ => by go_simp⟩) HTR.out ?_
  try simp only [Act.put, List.setIfInBounds_toArray, List.set_cons_succ, List.set_cons_zero]
  refine wpAnyH_take (i := 2) (oi := ⟨some 19, .move (.tmp 2), 28, _, _, none⟩) (v := .slice b m d) rfl (by kernel_rfl) (by kernel_rfl) (by kernel_rfl) (fun _ _ _ h => h) (Or.inl ⟨by rfl, fun _ _ => by go_simp⟩) HTR.out ?_
  try simp only [Act.put, List.setIfInBounds_toArray, List.set_cons_succ, List.set_cons_zero]
  refine wpAnyH_ready (rs := [0, 3]) (by kernel_rfl) (by simp) ?_
  refine AllReadyH.cons (o := ⟨some 17, .load 88 (.tmp 3), 88, _, _, none⟩) rfl (fun K hK => ?_) (AllReadyH.cons (o := ⟨some 20, .buildSlice 35 2 #[(0, .tmp 18), (1, .tmp 19)], 35, _, _, none⟩) rfl (fun K hK => ?_) AllReadyH.nil)
  · rw [if_pos (by rfl)]
    refine wp_of_yields (yields_arr 88 (.tmp 3) (by rfl) w.heap.size (by rfl) BX.out _ Tryd.underlying88 rfl size_ref5) ?_
    refine hK _ _ trivial (fun _ => ?_)
    clear hK K
    try simp only [Act.put, List.setIfInBounds_toArray, List.set_cons_succ, List.set_cons_zero]
    refine wpAnyH_ready (rs := [3]) (by kernel_rfl) (by simp) ?_
    refine AllReadyH.cons (o := ⟨some 20, .buildSlice 35 2 #[(0, .tmp 18), (1, .tmp 19)], 35, _, _, none⟩) rfl (fun K hK => ?_) AllReadyH.nil
    go_simp
    have BJ := Blk.new v0 #[.slice a n c, .slice b m d] 28
    have hb := below_one' v0 (.cells #[.slice a n c, .slice b m d] 28)
    generalize World.alloc v0 _ = v1 at *
    have HB := Lib.hid (HB.out.trans (hb.mono HB.out.size))
    have BX := Lib.hid (BX.out.on hb)
    have BY := Lib.hid (BY.out.on hb)
    replace BJ := Lib.hid BJ
    clear hb
    refine hK _ _ HTR.out (fun _ => ?_)
    clear hK K
    try simp only [Act.put, List.setIfInBounds_toArray, List.set_cons_succ, List.set_cons_zero]
    refine wpAnyH_ready (rs := [4]) (by kernel_rfl) (by simp) ?_
    refine AllReadyH.cons (o := ⟨some 21, .call { callee := .value (.func 36), args := #[.tmp 20], argTypes := #[35] }, 28, _, _, none⟩) rfl (fun K hK => ?_) AllReadyH.nil
    go_simp
    refine (join_blk2 v1 _ _ BJ.out (HE0.out.on HB.out) (HA0.out.on HB.out) (by have h := HLn.out; have h1 := h.2.2 add (by simp); omega)).mono ?_
    rintro e v2 ⟨aj, nj, cj, rfl, hO, hb⟩
    have HB := Lib.hid (HB.out.trans (hb.mono HB.out.size))
    have BX := Lib.hid (BX.out.on hb)
    have BY := Lib.hid (BY.out.on hb)
    have BJ := Lib.hid (BJ.out.on hb)
    have TJ := Lib.hid (hO.txt)
    clear hb hO
    refine hK _ _ HTR.out (fun _ => ?_)
    clear hK K
    try simp only [Act.put, List.setIfInBounds_toArray, List.set_cons_succ, List.set_cons_zero]
    refine wpAnyH_ready (rs := [5]) (by kernel_rfl) (by simp) ?_
    refine AllReadyH.cons (o := ⟨some 22, .call { callee := .value (.func 117), args := #[.tmp 17, .tmp 21], argTypes := #[88, 28] }, 88, _, _, none⟩) rfl (fun K hK => ?_) AllReadyH.nil
    go_simp
    refine (rupd_walk k v (ent ++ add) _ _ aj _ _ _ _ nj cj cnt v2 (HK0.out.on HB.out) (HV0.out.on HB.out) TJ.out HKL.out HVL.out (by have h := HLn.out; have h1 := h.2.2 add (by simp); simp; omega)).mono ?_
    rintro e v3 ⟨kx, kxn, kxc, vx, vxn, vxc, rfl, hK2, hV2, hfk, hfv, hb⟩
    have FK := Lib.hid (show Off kx (updK k v (ent ++ add)) w.heap.size from fun q o e _ => by have := hfk q o e; have := BX.out.lt; omega)
    have FV := Lib.hid (show Off vx (updV k v (ent ++ add)) w.heap.size from fun q o e _ => by have := hfv q o e; have := BX.out.lt; omega)
    have FK1 := Lib.hid (show Off kx (updK k v (ent ++ add)) (w.heap.size + 1) from fun q o e _ => by have := hfk q o e; have := BY.out.lt; omega)
    have FV1 := Lib.hid (show Off vx (updV k v (ent ++ add)) (w.heap.size + 1) from fun q o e _ => by have := hfv q o e; have := BY.out.lt; omega)
    have FKZ := Lib.hid (show ∀ q o, kx = some ⟨q, o, none⟩ → w.heap.size ≤ q from fun q o e => Nat.le_trans HB.out.size (hfk q o e))
    have FVZ := Lib.hid (show ∀ q o, vx = some ⟨q, o, none⟩ → w.heap.size ≤ q from fun q o e => Nat.le_trans HB.out.size (hfv q o e))
    have HB := Lib.hid (HB.out.trans (hb.mono HB.out.size))
    have BX := Lib.hid (BX.out.on hb)
    have BY := Lib.hid (BY.out.on hb)
    have BJ := Lib.hid (BJ.out.on hb)
    have TJ := Lib.hid (TJ.out.on hb)
    have TK := Lib.hid (hK2)
    have TV := Lib.hid (hV2)
    clear hb hK2 hV2 hfk hfv
    refine hK _ _ HTR.out (fun _ => ?_)
    clear hK K
    try simp only [Act.put, List.setIfInBounds_toArray, List.set_cons_succ, List.set_cons_zero]
    refine wpAnyH_ready (rs := [6]) (by kernel_rfl) (by simp) ?_
    refine AllReadyH.cons (o := ⟨none, .store 88 (.tmp 3) (.tmp 22), 0, _, _, none⟩) rfl (fun K hK => ?_) AllReadyH.nil
    rw [if_pos (by rfl)]
    refine wp_store_abs 88 (.tmp 3) (.tmp 22) (by rfl) w.heap.size #[.slice kx kxn kxc, .slice vx vxn vxc, .int .i64 cnt] (by rfl) (by rfl) BX.out size_ref5 (by rfl) (by simp [Value.oneCell']) ?_
    intro W5 hW p
    refine hK _ _ trivial (fun _ => ?_)
    clear hK K
    have BX := Lib.hid p
    have BY := Lib.hid (hW.blk BY.out (by simp))
    have HB := Lib.hid (hW.below HB.out (Nat.le_refl _))
    have TK := Lib.hid (TK.out.off (row_of_wrote hW) FK.out)
    have TV := Lib.hid (TV.out.off (row_of_wrote hW) FV.out)
    clear hW p
    refine wpAnyH_done (by kernel_rfl) ?_ _
    go_wp2_with (first | (refine wpList_store_i64 rfl (.tmp 23) (.const (.int .i64 1)) (by rfl) w.heap.size 2 1 (by rfl) (by rfl) BX.out (by simp) ?_; intro W8 hW p; have BX := Lib.hid (show Blk W8 w.heap.size #[.slice kx kxn kxc, .slice vx vxn vxc, .int .i64 1] 88 from p); have BY := Lib.hid (hW.blk BY.out (by simp)); have HB := Lib.hid (hW.below HB.out (Nat.le_refl _)); have TK := Lib.hid (TK.out.off (row_of_wrote hW) FK.out); have TV := Lib.hid (TV.out.off (row_of_wrote hW) FV.out); clear hW p) | (refine wpList_load_row rfl 88 (.tmp 3) rfl w.heap.size rfl 88 _ _ _ BX.out Tryd.underlying88 rfl size_ref5 ?_) | (refine wpList_store_abs rfl 88 (.tmp 6) (.tmp 24) (by rfl) (w.heap.size + 1) #[.slice kx kxn kxc, .slice vx vxn vxc, .int .i64 1] (by rfl) (by rfl) 88 _ BY.out size_ref5 (by rfl) (by simp [Value.oneCell']) ?_; intro W9 hW p9; have HB9 := Lib.hid (hW.below HB.out (Nat.le_succ _)); have TK9 := Lib.hid (TK.out.off (row_of_wrote hW) FK1.out); have TV9 := Lib.hid (TV.out.off (row_of_wrote hW) FV1.out); clear hW))
    refine bodyPost_ret (v := .tuple #[.agg #[.slice kx kxn kxc, .slice vx vxn vxc, .int .i64 1], .int .i64 0]) ?_ rfl ⟨kx, kxn, kxc, vx, vxn, vxc, rfl, TK9.out, TV9.out, FKZ.out, FVZ.out, HB9.out⟩
    exact (results_st_tmp rfl _ p9 (by rfl) Tryd.underlying88 rfl size_ref5).trans rfl
  · go_simp
    have BJ := Blk.new v0 #[.slice a n c, .slice b m d] 28
    have hb := below_one' v0 (.cells #[.slice a n c, .slice b m d] 28)
    generalize World.alloc v0 _ = v4 at *
    have HB := Lib.hid (HB.out.trans (hb.mono HB.out.size))
    have BX := Lib.hid (BX.out.on hb)
    have BY := Lib.hid (BY.out.on hb)
    replace BJ := Lib.hid BJ
    clear hb
    refine hK _ _ HTR.out (fun _ => ?_)
    clear hK K
    try simp only [Act.put, List.setIfInBounds_toArray, List.set_cons_succ, List.set_cons_zero]
    refine wpAnyH_ready (rs := [0, 4]) (by kernel_rfl) (by simp) ?_
    refine AllReadyH.cons (o := ⟨some 17, .load 88 (.tmp 3), 88, _, _, none⟩) rfl (fun K hK => ?_) (AllReadyH.cons (o := ⟨some 21, .call { callee := .value (.func 36), args := #[.tmp 20], argTypes := #[35] }, 28, _, _, none⟩) rfl (fun K hK => ?_) AllReadyH.nil)
    · rw [if_pos (by rfl)]
      refine wp_of_yields (yields_arr 88 (.tmp 3) (by rfl) w.heap.size (by rfl) BX.out _ Tryd.underlying88 rfl size_ref5) ?_
      refine hK _ _ trivial (fun _ => ?_)
      clear hK K
      try simp only [Act.put, List.setIfInBounds_toArray, List.set_cons_succ, List.set_cons_zero]
      refine wpAnyH_ready (rs := [4]) (by kernel_rfl) (by simp) ?_
      refine AllReadyH.cons (o := ⟨some 21, .call { callee := .value (.func 36), args := #[.tmp 20], argTypes := #[35] }, 28, _, _, none⟩) rfl (fun K hK => ?_) AllReadyH.nil
      go_simp
      refine (join_blk2 v4 _ _ BJ.out (HE0.out.on HB.out) (HA0.out.on HB.out) (by have h := HLn.out; have h1 := h.2.2 add (by simp); omega)).mono ?_
      rintro e v5 ⟨aj, nj, cj, rfl, hO, hb⟩
      have HB := Lib.hid (HB.out.trans (hb.mono HB.out.size))
      have BX := Lib.hid (BX.out.on hb)
      have BY := Lib.hid (BY.out.on hb)
      have BJ := Lib.hid (BJ.out.on hb)
      have TJ := Lib.hid (hO.txt)
      clear hb hO
      refine hK _ _ HTR.out (fun _ => ?_)
      clear hK K
      try simp only [Act.put, List.setIfInBounds_toArray, List.set_cons_succ, List.set_cons_zero]
      refine wpAnyH_ready (rs := [5]) (by kernel_rfl) (by simp) ?_
      refine AllReadyH.cons (o := ⟨some 22, .call { callee := .value (.func 117), args := #[.tmp 17, .tmp 21], argTypes := #[88, 28] }, 88, _, _, none⟩) rfl (fun K hK => ?_) AllReadyH.nil
      go_simp
      refine (rupd_walk k v (ent ++ add) _ _ aj _ _ _ _ nj cj cnt v5 (HK0.out.on HB.out) (HV0.out.on HB.out) TJ.out HKL.out HVL.out (by have h := HLn.out; have h1 := h.2.2 add (by simp); simp; omega)).mono ?_
      rintro e v6 ⟨kx, kxn, kxc, vx, vxn, vxc, rfl, hK2, hV2, hfk, hfv, hb⟩
      have FK := Lib.hid (show Off kx (updK k v (ent ++ add)) w.heap.size from fun q o e _ => by have := hfk q o e; have := BX.out.lt; omega)
      have FV := Lib.hid (show Off vx (updV k v (ent ++ add)) w.heap.size from fun q o e _ => by have := hfv q o e; have := BX.out.lt; omega)
      have FK1 := Lib.hid (show Off kx (updK k v (ent ++ add)) (w.heap.size + 1) from fun q o e _ => by have := hfk q o e; have := BY.out.lt; omega)
      have FV1 := Lib.hid (show Off vx (updV k v (ent ++ add)) (w.heap.size + 1) from fun q o e _ => by have := hfv q o e; have := BY.out.lt; omega)
      have FKZ := Lib.hid (show ∀ q o, kx = some ⟨q, o, none⟩ → w.heap.size ≤ q from fun q o e => Nat.le_trans HB.out.size (hfk q o e))
      have FVZ := Lib.hid (show ∀ q o, vx = some ⟨q, o, none⟩ → w.heap.size ≤ q from fun q o e => Nat.le_trans HB.out.size (hfv q o e))
      have HB := Lib.hid (HB.out.trans (hb.mono HB.out.size))
      have BX := Lib.hid (BX.out.on hb)
      have BY := Lib.hid (BY.out.on hb)
      have BJ := Lib.hid (BJ.out.on hb)
      have TJ := Lib.hid (TJ.out.on hb)
      have TK := Lib.hid (hK2)
      have TV := Lib.hid (hV2)
      clear hb hK2 hV2 hfk hfv
      refine hK _ _ HTR.out (fun _ => ?_)
      clear hK K
      try simp only [Act.put, List.setIfInBounds_toArray, List.set_cons_succ, List.set_cons_zero]
      refine wpAnyH_ready (rs := [6]) (by kernel_rfl) (by simp) ?_
      refine AllReadyH.cons (o := ⟨none, .store 88 (.tmp 3) (.tmp 22), 0, _, _, none⟩) rfl (fun K hK => ?_) AllReadyH.nil
      rw [if_pos (by rfl)]
      refine wp_store_abs 88 (.tmp 3) (.tmp 22) (by rfl) w.heap.size #[.slice kx kxn kxc, .slice vx vxn vxc, .int .i64 cnt] (by rfl) (by rfl) BX.out size_ref5 (by rfl) (by simp [Value.oneCell']) ?_
      intro W5 hW p
      refine hK _ _ trivial (fun _ => ?_)
      clear hK K
      have BX := Lib.hid p
      have BY := Lib.hid (hW.blk BY.out (by simp))
      have HB := Lib.hid (hW.below HB.out (Nat.le_refl _))
      have TK := Lib.hid (TK.out.off (row_of_wrote hW) FK.out)
      have TV := Lib.hid (TV.out.off (row_of_wrote hW) FV.out)
      clear hW p
      refine wpAnyH_done (by kernel_rfl) ?_ _
      go_wp2_with (first | (refine wpList_store_i64 rfl (.tmp 23) (.const (.int .i64 1)) (by rfl) w.heap.size 2 1 (by rfl) (by rfl) BX.out (by simp) ?_; intro W8 hW p; have BX := Lib.hid (show Blk W8 w.heap.size #[.slice kx kxn kxc, .slice vx vxn vxc, .int .i64 1] 88 from p); have BY := Lib.hid (hW.blk BY.out (by simp)); have HB := Lib.hid (hW.below HB.out (Nat.le_refl _)); have TK := Lib.hid (TK.out.off (row_of_wrote hW) FK.out); have TV := Lib.hid (TV.out.off (row_of_wrote hW) FV.out); clear hW p) | (refine wpList_load_row rfl 88 (.tmp 3) rfl w.heap.size rfl 88 _ _ _ BX.out Tryd.underlying88 rfl size_ref5 ?_) | (refine wpList_store_abs rfl 88 (.tmp 6) (.tmp 24) (by rfl) (w.heap.size + 1) #[.slice kx kxn kxc, .slice vx vxn vxc, .int .i64 1] (by rfl) (by rfl) 88 _ BY.out size_ref5 (by rfl) (by simp [Value.oneCell']) ?_; intro W9 hW p9; have HB9 := Lib.hid (hW.below HB.out (Nat.le_succ _)); have TK9 := Lib.hid (TK.out.off (row_of_wrote hW) FK1.out); have TV9 := Lib.hid (TV.out.off (row_of_wrote hW) FV1.out); clear hW))
      refine bodyPost_ret (v := .tuple #[.agg #[.slice kx kxn kxc, .slice vx vxn vxc, .int .i64 1], .int .i64 0]) ?_ rfl ⟨kx, kxn, kxc, vx, vxn, vxc, rfl, TK9.out, TV9.out, FKZ.out, FVZ.out, HB9.out⟩
      exact (results_st_tmp rfl _ p9 (by rfl) Tryd.underlying88 rfl size_ref5).trans rfl
    · go_simp
      refine (join_blk2 v4 _ _ BJ.out (HE0.out.on HB.out) (HA0.out.on HB.out) (by have h := HLn.out; have h1 := h.2.2 add (by simp); omega)).mono ?_
      rintro e v7 ⟨aj, nj, cj, rfl, hO, hb⟩
      have HB := Lib.hid (HB.out.trans (hb.mono HB.out.size))
      have BX := Lib.hid (BX.out.on hb)
      have BY := Lib.hid (BY.out.on hb)
      have BJ := Lib.hid (BJ.out.on hb)
      have TJ := Lib.hid (hO.txt)
      clear hb hO
      refine hK _ _ HTR.out (fun _ => ?_)
      clear hK K
      try simp only [Act.put, List.setIfInBounds_toArray, List.set_cons_succ, List.set_cons_zero]
      refine wpAnyH_ready (rs := [0]) (by kernel_rfl) (by simp) ?_
      refine AllReadyH.cons (o := ⟨some 17, .load 88 (.tmp 3), 88, _, _, none⟩) rfl (fun K hK => ?_) AllReadyH.nil
      rw [if_pos (by rfl)]
      refine wp_of_yields (yields_arr 88 (.tmp 3) (by rfl) w.heap.size (by rfl) BX.out _ Tryd.underlying88 rfl size_ref5) ?_
      refine hK _ _ trivial (fun _ => ?_)
      clear hK K
      try simp only [Act.put, List.setIfInBounds_toArray, List.set_cons_succ, List.set_cons_zero]
      refine wpAnyH_ready (rs := [5]) (by kernel_rfl) (by simp) ?_
      refine AllReadyH.cons (o := ⟨some 22, .call { callee := .value (.func 117), args := #[.tmp 17, .tmp 21], argTypes := #[88, 28] }, 88, _, _, none⟩) rfl (fun K hK => ?_) AllReadyH.nil
      go_simp
      refine (rupd_walk k v (ent ++ add) _ _ aj _ _ _ _ nj cj cnt v7 (HK0.out.on HB.out) (HV0.out.on HB.out) TJ.out HKL.out HVL.out (by have h := HLn.out; have h1 := h.2.2 add (by simp); simp; omega)).mono ?_
      rintro e v8 ⟨kx, kxn, kxc, vx, vxn, vxc, rfl, hK2, hV2, hfk, hfv, hb⟩
      have FK := Lib.hid (show Off kx (updK k v (ent ++ add)) w.heap.size from fun q o e _ => by have := hfk q o e; have := BX.out.lt; omega)
      have FV := Lib.hid (show Off vx (updV k v (ent ++ add)) w.heap.size from fun q o e _ => by have := hfv q o e; have := BX.out.lt; omega)
      have FK1 := Lib.hid (show Off kx (updK k v (ent ++ add)) (w.heap.size + 1) from fun q o e _ => by have := hfk q o e; have := BY.out.lt; omega)
      have FV1 := Lib.hid (show Off vx (updV k v (ent ++ add)) (w.heap.size + 1) from fun q o e _ => by have := hfv q o e; have := BY.out.lt; omega)
      have FKZ := Lib.hid (show ∀ q o, kx = some ⟨q, o, none⟩ → w.heap.size ≤ q from fun q o e => Nat.le_trans HB.out.size (hfk q o e))
      have FVZ := Lib.hid (show ∀ q o, vx = some ⟨q, o, none⟩ → w.heap.size ≤ q from fun q o e => Nat.le_trans HB.out.size (hfv q o e))
      have HB := Lib.hid (HB.out.trans (hb.mono HB.out.size))
      have BX := Lib.hid (BX.out.on hb)
      have BY := Lib.hid (BY.out.on hb)
      have BJ := Lib.hid (BJ.out.on hb)
      have TJ := Lib.hid (TJ.out.on hb)
      have TK := Lib.hid (hK2)
      have TV := Lib.hid (hV2)
      clear hb hK2 hV2 hfk hfv
      refine hK _ _ HTR.out (fun _ => ?_)
      clear hK K
      try simp only [Act.put, List.setIfInBounds_toArray, List.set_cons_succ, List.set_cons_zero]
      refine wpAnyH_ready (rs := [6]) (by kernel_rfl) (by simp) ?_
      refine AllReadyH.cons (o := ⟨none, .store 88 (.tmp 3) (.tmp 22), 0, _, _, none⟩) rfl (fun K hK => ?_) AllReadyH.nil
      rw [if_pos (by rfl)]
      refine wp_store_abs 88 (.tmp 3) (.tmp 22) (by rfl) w.heap.size #[.slice kx kxn kxc, .slice vx vxn vxc, .int .i64 cnt] (by rfl) (by rfl) BX.out size_ref5 (by rfl) (by simp [Value.oneCell']) ?_
      intro W5 hW p
      refine hK _ _ trivial (fun _ => ?_)
      clear hK K
      have BX := Lib.hid p
      have BY := Lib.hid (hW.blk BY.out (by simp))
      have HB := Lib.hid (hW.below HB.out (Nat.le_refl _))
      have TK := Lib.hid (TK.out.off (row_of_wrote hW) FK.out)
      have TV := Lib.hid (TV.out.off (row_of_wrote hW) FV.out)
      clear hW p
      refine wpAnyH_done (by kernel_rfl) ?_ _
      go_wp2_with (first | (refine wpList_store_i64 rfl (.tmp 23) (.const (.int .i64 1)) (by rfl) w.heap.size 2 1 (by rfl) (by rfl) BX.out (by simp) ?_; intro W8 hW p; have BX := Lib.hid (show Blk W8 w.heap.size #[.slice kx kxn kxc, .slice vx vxn vxc, .int .i64 1] 88 from p); have BY := Lib.hid (hW.blk BY.out (by simp)); have HB := Lib.hid (hW.below HB.out (Nat.le_refl _)); have TK := Lib.hid (TK.out.off (row_of_wrote hW) FK.out); have TV := Lib.hid (TV.out.off (row_of_wrote hW) FV.out); clear hW p) | (refine wpList_load_row rfl 88 (.tmp 3) rfl w.heap.size rfl 88 _ _ _ BX.out Tryd.underlying88 rfl size_ref5 ?_) | (refine wpList_store_abs rfl 88 (.tmp 6) (.tmp 24) (by rfl) (w.heap.size + 1) #[.slice kx kxn kxc, .slice vx vxn vxc, .int .i64 1] (by rfl) (by rfl) 88 _ BY.out size_ref5 (by rfl) (by simp [Value.oneCell']) ?_; intro W9 hW p9; have HB9 := Lib.hid (hW.below HB.out (Nat.le_succ _)); have TK9 := Lib.hid (TK.out.off (row_of_wrote hW) FK1.out); have TV9 := Lib.hid (TV.out.off (row_of_wrote hW) FV1.out); clear hW))
      refine bodyPost_ret (v := .tuple #[.agg #[.slice kx kxn kxc, .slice vx vxn vxc, .int .i64 1], .int .i64 0]) ?_ rfl ⟨kx, kxn, kxc, vx, vxn, vxc, rfl, TK9.out, TV9.out, FKZ.out, FVZ.out, HB9.out⟩
      exact (results_st_tmp rfl _ p9 (by rfl) Tryd.underlying88 rfl size_ref5).trans rfl
end Go.Proofs.YtgbahfggnbpnmaaDoor
