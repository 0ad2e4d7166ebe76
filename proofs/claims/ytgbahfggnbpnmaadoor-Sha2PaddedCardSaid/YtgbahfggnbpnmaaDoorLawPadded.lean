import Derived.Test.YtgbahfggnbpnmaaDoorHeld
/-
  The walk of liverylaw02.Sha2Padded.
-/
namespace Go.Proofs.YtgbahfggnbpnmaaDoor
open Go.RowKit
set_option maxRecDepth 100000 in
set_option maxHeartbeats 2000000 in
theorem sha2padded_walk (key text : List UInt8) (a b : Option Addr) (n c m d : Nat) (z : UInt8) (w : World) (hK : Txt w a n c key) (hX : Txt w b m d text) (hT : Two w) :
    Calls Tryd.prog 8 #[.slice a n c, bv z, .slice b m d] w fun e w' => e = .returned (.bool true) ∧ Below w.heap.size w w' := by
  have HK := Lib.hid hK
  have HX := Lib.hid hX
  have HT := Lib.hid hT
  have hn := hK.len
  clear hK hX hT
  by_cases hfew : fewB 3000 40 [key, text] = true
  · have HF := Lib.hid hfew
    have HKL := Lib.hid (few2_len hfew).1
    have HXL := Lib.hid (few2_len hfew).2
    have HN := Lib.hid hn
    have hn3 : n ≤ 3000 := by have := (few2_len hfew).1; omega
    clear hfew hn
    obtain ⟨V, hV⟩ : ∃ V, V = macL key text := ⟨_, rfl⟩
    have HVL := Lib.hid (show V.length = 32 by rw [hV]; exact macL_len _ _)
    have heq := eq_bytes 32 Tryd.underlying31 V V (by rw [hV]; exact macL_len _ _) (by rw [hV]; exact macL_len _ _)
    simp only [decide_true] at heq
    have HVE := Lib.hid hV
    clear hV
    go_enter Tryd.func8, Tryd.ntmps8
    go_wp2_with fail
    refine (live_walk _ HT.out).mono ?_
    rintro e w1 ⟨rfl, hb1⟩
    have HK1 := Lib.hid (HK.out.on hb1)
    have HX1 := Lib.hid (HX.out.on hb1)
    have HT1 := Lib.hid (HT.out.on hb1)
    have HB1 := Lib.hid hb1
    clear hb1
    go_wp2_with fail
    refine (few_two w1 28 _ rfl HK1.out HX1.out true HF.out).mono ?_
    rintro e w2 ⟨rfl, hw2⟩
    have hb2 : Below w1.heap.size w1 w2 := by rw [hw2]; exact below_one' w1 _
    have HK2 := Lib.hid (HK1.out.on hb2)
    have HX2 := Lib.hid (HX1.out.on hb2)
    have HT2 := Lib.hid (HT1.out.on hb2)
    have HB2 := Lib.hid (HB1.out.trans (hb2.mono HB1.out.size))
    clear hb2 hw2
    go_wp2_with fail
    refine (mac_one w2 28 _ rfl HK2.out HX2.out HT2.out (by have := HKL.out; omega) (by have := HXL.out; omega)).mono ?_
    rintro e w3 ⟨he, hb3⟩
    rw [← HVE.out] at he
    subst he
    have HK3 := Lib.hid (HK2.out.on hb3)
    have HX3 := Lib.hid (HX2.out.on hb3)
    have HT3 := Lib.hid (HT2.out.on hb3)
    have HB3 := Lib.hid (HB2.out.trans (hb3.mono HB2.out.size))
    clear hb3
    by_cases h64 : n ≤ 64
    · obtain ⟨zz, hzz⟩ : ∃ k, k = z.toNat % (65 - n) := ⟨_, rfl⟩
      have hzlt : zz < 65 - n := by rw [hzz]; exact Nat.mod_lt _ (by omega)
      have HZZ := Lib.hid (show key.length + zz ≤ 64 by have := HN.out; omega)
      have f1 : IntKind.i64.wrap (65 - (n : Int)) = 65 - (n : Int) := IntWalk.i64_in _ (by omega)
      have f2 : (65 - (n : Int)) = ((65 - n : Nat) : Int) := by omega
      have f3 : (z.toNat : Int).tmod (65 - (n : Int)) = (zz : Int) := by rw [f2, hzz]; rfl
      have f4 : (z.toNat : Int) % (65 - (n : Int)) = (zz : Int) := by rw [f2, hzz]; rfl
      have f5 : (0 : Int) < 65 - (n : Int) := by omega
      have f0 : IntKind.i64.wrap (z.toNat : Int) = (z.toNat : Int) := IntWalk.i64_in _ (by have := z.toNat_lt; omega)
      have f6 : ¬ 65 - (n : Int) = 0 := by omega
      clear f2 hzz
      go_wp2_with (refine wpList_store_abs rfl 31 (.tmp 7) (.tmp 22) rfl w3.heap.size (barr V) (by rfl) (by rfl) 31 _ (Blk.new w3 _ _) (by rw [barr_size, HVL.out]; exact size_u8x32) (by rw [barr_size, HVL.out]; rfl) (barr_one_all _) ?_; intro W7 hW7 p7; have qb := Lib.hid (hW7.below (below_one' w3 _) (Nat.le_refl _)); have HV7 := Lib.hid p7; clear hW7 p7)
      have HK7 := Lib.hid (HK3.out.on qb.out)
      have HX7 := Lib.hid (HX3.out.on qb.out)
      have HT7 := Lib.hid (HT3.out.on qb.out)
      have HB7 := Lib.hid (HB3.out.trans (qb.out.mono HB3.out.size))
      obtain ⟨g7, hg7⟩ : ∃ g, g = w3.heap.size := ⟨_, rfl⟩
      rw [← hg7] at HV7
      clear qb
      simp only [← hg7]
      clear hg7
      refine wp_region_held_drew (S := fun w' => Below W7.heap.size W7 w') (by kernel_rfl) (Below.refl _ _).drew (fun _ => ?_)
      have HS := Lib.hid ((Below.refl W7.heap.size W7).drew)
      have HK7 := Lib.hid (HK7.out.on (HS.out))
      have HX7 := Lib.hid (HX7.out.on (HS.out))
      have HT7 := Lib.hid (HT7.out.on (HS.out))
      generalize World.drew W7 = v0 at *
      refine wpAnyH_take (i := 0) (oi := ⟨some 26, .move (.tmp 0), 28, _, _, none⟩) (v := .slice a n c) rfl (by kernel_rfl) (by kernel_rfl) (by kernel_rfl) (fun _ _ _ h => h) (Or.inl ⟨by rfl, fun _ _ => by go_simp⟩) HS.out ?_
      refine wpAnyH_take (i := 1) (oi := ⟨some 27, .move (.tmp 1), 5, _, _, none⟩) (v := bv z) rfl (by kernel_rfl) (by kernel_rfl) (by kernel_rfl) (fun _ _ _ h => h) (Or.inl ⟨by rfl, fun _ _ => by go_simp⟩) HS.out ?_
      refine wpAnyH_take (i := 2) (oi := ⟨some 28, .convert 5 3 (.tmp 27), 3, _, _, none⟩) (v := .int .i64 (z.toNat : Nat)) rfl (by kernel_rfl) (by kernel_rfl) (by kernel_rfl) (fun _ _ _ h => h) (Or.inl ⟨by rfl, fun _ _ => by go_simp⟩) HS.out ?_
      refine wpAnyH_take (i := 3) (oi := ⟨some 29, .move (.tmp 0), 28, _, _, none⟩) (v := .slice a n c) rfl (by kernel_rfl) (by kernel_rfl) (by kernel_rfl) (fun _ _ _ h => h) (Or.inl ⟨by rfl, fun _ _ => by go_simp⟩) HS.out ?_
      refine wpAnyH_take (i := 4) (oi := ⟨some 30, .call { callee := .builtin .len, args := #[.tmp 29], argTypes := #[28] }, 3, _, _, none⟩) (v := .int .i64 (n : Nat)) rfl (by kernel_rfl) (by kernel_rfl) (by kernel_rfl) (fun _ _ _ h => h) (Or.inl ⟨by rfl, fun _ _ => by go_simp⟩) HS.out ?_
      refine wpAnyH_take (i := 5) (oi := ⟨some 31, .binOp .sub 3 (.const (.int .i64 65)) (.tmp 30) 3, 3, _, _, none⟩) (v := .int .i64 (65 - (n : Int))) rfl (by kernel_rfl) (by kernel_rfl) (by kernel_rfl) (fun _ _ _ h => h) (Or.inl ⟨by rfl, fun _ _ => by go_simp⟩) HS.out ?_
      refine wpAnyH_take (i := 6) (oi := ⟨some 32, .binOp .rem 3 (.tmp 28) (.tmp 31) 3, 3, _, _, none⟩) (v := .int .i64 (zz : Nat)) rfl (by kernel_rfl) (by kernel_rfl) (by kernel_rfl) (fun _ _ _ h => h) (Or.inl ⟨by rfl, fun _ _ => by go_simp⟩) HS.out ?_
      refine wpAnyH_take (i := 10) (oi := ⟨some 36, .move (.tmp 2), 28, _, _, none⟩) (v := .slice b m d) rfl (by kernel_rfl) (by kernel_rfl) (by kernel_rfl) (fun _ _ _ h => h) (Or.inl ⟨by rfl, fun _ _ => by go_simp⟩) HS.out ?_
      try simp only [Act.put, List.setIfInBounds_toArray, List.set_cons_succ, List.set_cons_zero]
      refine wpAnyH_take (i := 13) (oi := ⟨some 39, .load 31 (.tmp 7), 31, _, _, none⟩) (v := .agg (barr V)) rfl (by kernel_rfl) (by kernel_rfl) (by kernel_rfl) (fun _ _ _ h => h) (Or.inl ⟨by rfl, fun vv hvv => yields_arr 31 (.tmp 7) rfl g7 rfl (HV7.out.on hvv) _ Tryd.underlying31 rfl (by rw [barr_size, HVL.out]; exact size_u8x32)⟩) HS.out ?_
      try simp only [Act.put, List.setIfInBounds_toArray, List.set_cons_succ, List.set_cons_zero]
      refine wpAnyH_ready (rs := [7, 11]) (by kernel_rfl) (by simp) ?_
      refine AllReadyH.cons (o := ⟨some 33, .makeSlice 28 (.tmp 32) (.tmp 32), 28, _, _, none⟩) rfl (fun K hK => ?_) (AllReadyH.cons (o := ⟨some 37, .buildSlice 35 1 #[(0, .tmp 36)], 35, _, _, none⟩) rfl (fun K hK => ?_) AllReadyH.nil)
      · rw [if_pos (by rfl)]
        refine wp_make_bytes (.tmp 32) (.tmp 32) (by rfl) zz (by omega) (by rfl) (by rfl) ?_
        have BM := Blk.new v0 (barr (List.replicate zz 0)) 5
        have hb := below_one' v0 (.cells (barr (List.replicate zz 0)) 5)
        generalize World.alloc v0 _ = v1 at *
        have HK7 := Lib.hid (HK7.out.on hb)
        have HX7 := Lib.hid (HX7.out.on hb)
        have HT7 := Lib.hid (HT7.out.on hb)
        have HS := Lib.hid (HS.out.trans (hb.mono HS.out.size))
        replace BM := Lib.hid BM
        have TZ := Lib.hid (by have h := Txt.of_blk BM.out; rw [List.length_replicate] at h; exact h)
        clear hb
        refine hK _ _ HS.out (fun _ => ?_)
        clear hK K
        try simp only [Act.put, List.setIfInBounds_toArray, List.set_cons_succ, List.set_cons_zero]
        refine wpAnyH_ready (rs := [8, 11]) (by kernel_rfl) (by simp) ?_
        refine AllReadyH.cons (o := ⟨some 34, .buildSlice 35 2 #[(0, .tmp 26), (1, .tmp 33)], 35, _, _, none⟩) rfl (fun K hK => ?_) (AllReadyH.cons (o := ⟨some 37, .buildSlice 35 1 #[(0, .tmp 36)], 35, _, _, none⟩) rfl (fun K hK => ?_) AllReadyH.nil)
        · go_simp
          have BJ := Blk.new v1 #[.slice a n c, .slice (some ⟨v0.heap.size, 0, none⟩) zz zz] 28
          have hb := below_one' v1 (.cells #[.slice a n c, .slice (some ⟨v0.heap.size, 0, none⟩) zz zz] 28)
          generalize World.alloc v1 _ = v2 at *
          have HK7 := Lib.hid (HK7.out.on hb)
          have HX7 := Lib.hid (HX7.out.on hb)
          have HT7 := Lib.hid (HT7.out.on hb)
          have HS := Lib.hid (HS.out.trans (hb.mono HS.out.size))
          have BM := Lib.hid (BM.out.on hb)
          have TZ := Lib.hid (TZ.out.on hb)
          replace BJ := Lib.hid BJ
          clear hb
          refine hK _ _ HS.out (fun _ => ?_)
          clear hK K
          try simp only [Act.put, List.setIfInBounds_toArray, List.set_cons_succ, List.set_cons_zero]
          refine wpAnyH_ready (rs := [9, 11]) (by kernel_rfl) (by simp) ?_
          refine AllReadyH.cons (o := ⟨some 35, .call { callee := .value (.func 36), args := #[.tmp 34], argTypes := #[35] }, 28, _, _, none⟩) rfl (fun K hK => ?_) (AllReadyH.cons (o := ⟨some 37, .buildSlice 35 1 #[(0, .tmp 36)], 35, _, _, none⟩) rfl (fun K hK => ?_) AllReadyH.nil)
          · go_simp
            refine (join_blk2 v2 _ 28 BJ.out HK7.out TZ.out (by rw [List.length_replicate]; have := HKL.out; omega)).mono ?_
            rintro e v3 ⟨aj, nj, cj, rfl, hOj, hb⟩
            have HK7 := Lib.hid (HK7.out.on hb)
            have HX7 := Lib.hid (HX7.out.on hb)
            have HT7 := Lib.hid (HT7.out.on hb)
            have HS := Lib.hid (HS.out.trans (hb.mono HS.out.size))
            have BM := Lib.hid (BM.out.on hb)
            have TZ := Lib.hid (TZ.out.on hb)
            have BJ := Lib.hid (BJ.out.on hb)
            have TJ := Lib.hid (hOj.txt)
            clear hb
            refine hK _ _ HS.out (fun _ => ?_)
            clear hK K
            try simp only [Act.put, List.setIfInBounds_toArray, List.set_cons_succ, List.set_cons_zero]
            refine wpAnyH_ready (rs := [11]) (by kernel_rfl) (by simp) ?_
            refine AllReadyH.cons (o := ⟨some 37, .buildSlice 35 1 #[(0, .tmp 36)], 35, _, _, none⟩) rfl (fun K hK => ?_) AllReadyH.nil
            go_simp
            have BT := Blk.new v3 #[.slice b m d] 28
            have hb := below_one' v3 (.cells #[.slice b m d] 28)
            generalize World.alloc v3 _ = v4 at *
            have HK7 := Lib.hid (HK7.out.on hb)
            have HX7 := Lib.hid (HX7.out.on hb)
            have HT7 := Lib.hid (HT7.out.on hb)
            have HS := Lib.hid (HS.out.trans (hb.mono HS.out.size))
            have BM := Lib.hid (BM.out.on hb)
            have TZ := Lib.hid (TZ.out.on hb)
            have BJ := Lib.hid (BJ.out.on hb)
            have TJ := Lib.hid (TJ.out.on hb)
            replace BT := Lib.hid BT
            clear hb
            refine hK _ _ HS.out (fun _ => ?_)
            clear hK K
            try simp only [Act.put, List.setIfInBounds_toArray, List.set_cons_succ, List.set_cons_zero]
            refine wpAnyH_ready (rs := [12]) (by kernel_rfl) (by simp) ?_
            refine AllReadyH.cons (o := ⟨some 38, .call { callee := .value (.func 40), args := #[.tmp 35, .tmp 37], argTypes := #[28, 35] }, 31, _, _, none⟩) rfl (fun K hK => ?_) AllReadyH.nil
            go_simp
            refine (mac_blk1 v4 _ 28 BT.out TJ.out HX7.out HT7.out (by simp; have := HKL.out; omega) (by have := HXL.out; omega)).mono ?_
            rintro e v5 ⟨he, hb⟩
            rw [macL_kz (kz_pad key zz HZZ.out), ← HVE.out] at he
            subst he
            have HK7 := Lib.hid (HK7.out.on hb)
            have HX7 := Lib.hid (HX7.out.on hb)
            have HT7 := Lib.hid (HT7.out.on hb)
            have HS := Lib.hid (HS.out.trans (hb.mono HS.out.size))
            have BM := Lib.hid (BM.out.on hb)
            have TZ := Lib.hid (TZ.out.on hb)
            have BJ := Lib.hid (BJ.out.on hb)
            have TJ := Lib.hid (TJ.out.on hb)
            have BT := Lib.hid (BT.out.on hb)
            clear hb
            refine hK _ _ HS.out (fun _ => ?_)
            clear hK K
            refine wpAnyH_take (i := 14) (oi := ⟨some 40, .binOp .eql 31 (.tmp 38) (.tmp 39) 31, 4, _, _, none⟩) (v := .bool true) rfl (by kernel_rfl) (by kernel_rfl) (by kernel_rfl) (fun _ _ _ h => h) (Or.inl ⟨by rfl, fun _ _ => by go_simp⟩) HS.out ?_
            refine wpAnyH_take (i := 15) (oi := ⟨some 6, .assign (.tmp 40), 4, _, _, none⟩) (v := .bool true) rfl (by kernel_rfl) (by kernel_rfl) (by kernel_rfl) (fun _ _ _ h => h) (Or.inl ⟨by rfl, fun _ _ => by go_simp⟩) HS.out ?_
            try simp only [Act.put, List.setIfInBounds_toArray, List.set_cons_succ, List.set_cons_zero]
            refine wpAnyH_done (by kernel_rfl) ?_ _
            go_wp2
            go_ret
            exact ⟨rfl, HB7.out.trans (HS.out.mono HB7.out.size)⟩
          · go_simp
            have BT := Blk.new v2 #[.slice b m d] 28
            have hb := below_one' v2 (.cells #[.slice b m d] 28)
            generalize World.alloc v2 _ = v6 at *
            have HK7 := Lib.hid (HK7.out.on hb)
            have HX7 := Lib.hid (HX7.out.on hb)
            have HT7 := Lib.hid (HT7.out.on hb)
            have HS := Lib.hid (HS.out.trans (hb.mono HS.out.size))
            have BM := Lib.hid (BM.out.on hb)
            have TZ := Lib.hid (TZ.out.on hb)
            have BJ := Lib.hid (BJ.out.on hb)
            replace BT := Lib.hid BT
            clear hb
            refine hK _ _ HS.out (fun _ => ?_)
            clear hK K
            try simp only [Act.put, List.setIfInBounds_toArray, List.set_cons_succ, List.set_cons_zero]
            refine wpAnyH_ready (rs := [9]) (by kernel_rfl) (by simp) ?_
            refine AllReadyH.cons (o := ⟨some 35, .call { callee := .value (.func 36), args := #[.tmp 34], argTypes := #[35] }, 28, _, _, none⟩) rfl (fun K hK => ?_) AllReadyH.nil
            go_simp
            refine (join_blk2 v6 _ 28 BJ.out HK7.out TZ.out (by rw [List.length_replicate]; have := HKL.out; omega)).mono ?_
            rintro e v7 ⟨aj, nj, cj, rfl, hOj, hb⟩
            have HK7 := Lib.hid (HK7.out.on hb)
            have HX7 := Lib.hid (HX7.out.on hb)
            have HT7 := Lib.hid (HT7.out.on hb)
            have HS := Lib.hid (HS.out.trans (hb.mono HS.out.size))
            have BM := Lib.hid (BM.out.on hb)
            have TZ := Lib.hid (TZ.out.on hb)
            have BJ := Lib.hid (BJ.out.on hb)
            have BT := Lib.hid (BT.out.on hb)
            have TJ := Lib.hid (hOj.txt)
            clear hb
            refine hK _ _ HS.out (fun _ => ?_)
            clear hK K
            try simp only [Act.put, List.setIfInBounds_toArray, List.set_cons_succ, List.set_cons_zero]
            refine wpAnyH_ready (rs := [12]) (by kernel_rfl) (by simp) ?_
            refine AllReadyH.cons (o := ⟨some 38, .call { callee := .value (.func 40), args := #[.tmp 35, .tmp 37], argTypes := #[28, 35] }, 31, _, _, none⟩) rfl (fun K hK => ?_) AllReadyH.nil
            go_simp
            refine (mac_blk1 v7 _ 28 BT.out TJ.out HX7.out HT7.out (by simp; have := HKL.out; omega) (by have := HXL.out; omega)).mono ?_
            rintro e v8 ⟨he, hb⟩
            rw [macL_kz (kz_pad key zz HZZ.out), ← HVE.out] at he
            subst he
            have HK7 := Lib.hid (HK7.out.on hb)
            have HX7 := Lib.hid (HX7.out.on hb)
            have HT7 := Lib.hid (HT7.out.on hb)
            have HS := Lib.hid (HS.out.trans (hb.mono HS.out.size))
            have BM := Lib.hid (BM.out.on hb)
            have TZ := Lib.hid (TZ.out.on hb)
            have BJ := Lib.hid (BJ.out.on hb)
            have BT := Lib.hid (BT.out.on hb)
            have TJ := Lib.hid (TJ.out.on hb)
            clear hb
            refine hK _ _ HS.out (fun _ => ?_)
            clear hK K
            refine wpAnyH_take (i := 14) (oi := ⟨some 40, .binOp .eql 31 (.tmp 38) (.tmp 39) 31, 4, _, _, none⟩) (v := .bool true) rfl (by kernel_rfl) (by kernel_rfl) (by kernel_rfl) (fun _ _ _ h => h) (Or.inl ⟨by rfl, fun _ _ => by go_simp⟩) HS.out ?_
            refine wpAnyH_take (i := 15) (oi := ⟨some 6, .assign (.tmp 40), 4, _, _, none⟩) (v := .bool true) rfl (by kernel_rfl) (by kernel_rfl) (by kernel_rfl) (fun _ _ _ h => h) (Or.inl ⟨by rfl, fun _ _ => by go_simp⟩) HS.out ?_
            try simp only [Act.put, List.setIfInBounds_toArray, List.set_cons_succ, List.set_cons_zero]
            refine wpAnyH_done (by kernel_rfl) ?_ _
            go_wp2
            go_ret
            exact ⟨rfl, HB7.out.trans (HS.out.mono HB7.out.size)⟩
        · go_simp
          have BT := Blk.new v1 #[.slice b m d] 28
          have hb := below_one' v1 (.cells #[.slice b m d] 28)
          generalize World.alloc v1 _ = v9 at *
          have HK7 := Lib.hid (HK7.out.on hb)
          have HX7 := Lib.hid (HX7.out.on hb)
          have HT7 := Lib.hid (HT7.out.on hb)
          have HS := Lib.hid (HS.out.trans (hb.mono HS.out.size))
          have BM := Lib.hid (BM.out.on hb)
          have TZ := Lib.hid (TZ.out.on hb)
          replace BT := Lib.hid BT
          clear hb
          refine hK _ _ HS.out (fun _ => ?_)
          clear hK K
          try simp only [Act.put, List.setIfInBounds_toArray, List.set_cons_succ, List.set_cons_zero]
          refine wpAnyH_ready (rs := [8]) (by kernel_rfl) (by simp) ?_
          refine AllReadyH.cons (o := ⟨some 34, .buildSlice 35 2 #[(0, .tmp 26), (1, .tmp 33)], 35, _, _, none⟩) rfl (fun K hK => ?_) AllReadyH.nil
          go_simp
          have BJ := Blk.new v9 #[.slice a n c, .slice (some ⟨v0.heap.size, 0, none⟩) zz zz] 28
          have hb := below_one' v9 (.cells #[.slice a n c, .slice (some ⟨v0.heap.size, 0, none⟩) zz zz] 28)
          generalize World.alloc v9 _ = v10 at *
          have HK7 := Lib.hid (HK7.out.on hb)
          have HX7 := Lib.hid (HX7.out.on hb)
          have HT7 := Lib.hid (HT7.out.on hb)
          have HS := Lib.hid (HS.out.trans (hb.mono HS.out.size))
          have BM := Lib.hid (BM.out.on hb)
          have TZ := Lib.hid (TZ.out.on hb)
          have BT := Lib.hid (BT.out.on hb)
          replace BJ := Lib.hid BJ
          clear hb
          refine hK _ _ HS.out (fun _ => ?_)
          clear hK K
          try simp only [Act.put, List.setIfInBounds_toArray, List.set_cons_succ, List.set_cons_zero]
          refine wpAnyH_ready (rs := [9]) (by kernel_rfl) (by simp) ?_
          refine AllReadyH.cons (o := ⟨some 35, .call { callee := .value (.func 36), args := #[.tmp 34], argTypes := #[35] }, 28, _, _, none⟩) rfl (fun K hK => ?_) AllReadyH.nil
          go_simp
          refine (join_blk2 v10 _ 28 BJ.out HK7.out TZ.out (by rw [List.length_replicate]; have := HKL.out; omega)).mono ?_
          rintro e v11 ⟨aj, nj, cj, rfl, hOj, hb⟩
          have HK7 := Lib.hid (HK7.out.on hb)
          have HX7 := Lib.hid (HX7.out.on hb)
          have HT7 := Lib.hid (HT7.out.on hb)
          have HS := Lib.hid (HS.out.trans (hb.mono HS.out.size))
          have BM := Lib.hid (BM.out.on hb)
          have TZ := Lib.hid (TZ.out.on hb)
          have BT := Lib.hid (BT.out.on hb)
          have BJ := Lib.hid (BJ.out.on hb)
          have TJ := Lib.hid (hOj.txt)
          clear hb
          refine hK _ _ HS.out (fun _ => ?_)
          clear hK K
          try simp only [Act.put, List.setIfInBounds_toArray, List.set_cons_succ, List.set_cons_zero]
          refine wpAnyH_ready (rs := [12]) (by kernel_rfl) (by simp) ?_
          refine AllReadyH.cons (o := ⟨some 38, .call { callee := .value (.func 40), args := #[.tmp 35, .tmp 37], argTypes := #[28, 35] }, 31, _, _, none⟩) rfl (fun K hK => ?_) AllReadyH.nil
          go_simp
          refine (mac_blk1 v11 _ 28 BT.out TJ.out HX7.out HT7.out (by simp; have := HKL.out; omega) (by have := HXL.out; omega)).mono ?_
          rintro e v12 ⟨he, hb⟩
          rw [macL_kz (kz_pad key zz HZZ.out), ← HVE.out] at he
          subst he
          have HK7 := Lib.hid (HK7.out.on hb)
          have HX7 := Lib.hid (HX7.out.on hb)
          have HT7 := Lib.hid (HT7.out.on hb)
          have HS := Lib.hid (HS.out.trans (hb.mono HS.out.size))
          have BM := Lib.hid (BM.out.on hb)
          have TZ := Lib.hid (TZ.out.on hb)
          have BT := Lib.hid (BT.out.on hb)
          have BJ := Lib.hid (BJ.out.on hb)
          have TJ := Lib.hid (TJ.out.on hb)
          clear hb
          refine hK _ _ HS.out (fun _ => ?_)
          clear hK K
          refine wpAnyH_take (i := 14) (oi := ⟨some 40, .binOp .eql 31 (.tmp 38) (.tmp 39) 31, 4, _, _, none⟩) (v := .bool true) rfl (by kernel_rfl) (by kernel_rfl) (by kernel_rfl) (fun _ _ _ h => h) (Or.inl ⟨by rfl, fun _ _ => by go_simp⟩) HS.out ?_
          refine wpAnyH_take (i := 15) (oi := ⟨some 6, .assign (.tmp 40), 4, _, _, none⟩) (v := .bool true) rfl (by kernel_rfl) (by kernel_rfl) (by kernel_rfl) (fun _ _ _ h => h) (Or.inl ⟨by rfl, fun _ _ => by go_simp⟩) HS.out ?_
          try simp only [Act.put, List.setIfInBounds_toArray, List.set_cons_succ, List.set_cons_zero]
          refine wpAnyH_done (by kernel_rfl) ?_ _
          go_wp2
          go_ret
          exact ⟨rfl, HB7.out.trans (HS.out.mono HB7.out.size)⟩
      · go_simp
        have BT := Blk.new v0 #[.slice b m d] 28
        have hb := below_one' v0 (.cells #[.slice b m d] 28)
        generalize World.alloc v0 _ = v13 at *
        have HK7 := Lib.hid (HK7.out.on hb)
        have HX7 := Lib.hid (HX7.out.on hb)
        have HT7 := Lib.hid (HT7.out.on hb)
        have HS := Lib.hid (HS.out.trans (hb.mono HS.out.size))
        replace BT := Lib.hid BT
        clear hb
        refine hK _ _ HS.out (fun _ => ?_)
        clear hK K
        try simp only [Act.put, List.setIfInBounds_toArray, List.set_cons_succ, List.set_cons_zero]
        refine wpAnyH_ready (rs := [7]) (by kernel_rfl) (by simp) ?_
        refine AllReadyH.cons (o := ⟨some 33, .makeSlice 28 (.tmp 32) (.tmp 32), 28, _, _, none⟩) rfl (fun K hK => ?_) AllReadyH.nil
        rw [if_pos (by rfl)]
        refine wp_make_bytes (.tmp 32) (.tmp 32) (by rfl) zz (by omega) (by rfl) (by rfl) ?_
        have BM := Blk.new v13 (barr (List.replicate zz 0)) 5
        have hb := below_one' v13 (.cells (barr (List.replicate zz 0)) 5)
        generalize World.alloc v13 _ = v14 at *
        have HK7 := Lib.hid (HK7.out.on hb)
        have HX7 := Lib.hid (HX7.out.on hb)
        have HT7 := Lib.hid (HT7.out.on hb)
        have HS := Lib.hid (HS.out.trans (hb.mono HS.out.size))
        have BT := Lib.hid (BT.out.on hb)
        replace BM := Lib.hid BM
        have TZ := Lib.hid (by have h := Txt.of_blk BM.out; rw [List.length_replicate] at h; exact h)
        clear hb
        refine hK _ _ HS.out (fun _ => ?_)
        clear hK K
        try simp only [Act.put, List.setIfInBounds_toArray, List.set_cons_succ, List.set_cons_zero]
        refine wpAnyH_ready (rs := [8]) (by kernel_rfl) (by simp) ?_
        refine AllReadyH.cons (o := ⟨some 34, .buildSlice 35 2 #[(0, .tmp 26), (1, .tmp 33)], 35, _, _, none⟩) rfl (fun K hK => ?_) AllReadyH.nil
        go_simp
        have BJ := Blk.new v14 #[.slice a n c, .slice (some ⟨v13.heap.size, 0, none⟩) zz zz] 28
        have hb := below_one' v14 (.cells #[.slice a n c, .slice (some ⟨v13.heap.size, 0, none⟩) zz zz] 28)
        generalize World.alloc v14 _ = v15 at *
        have HK7 := Lib.hid (HK7.out.on hb)
        have HX7 := Lib.hid (HX7.out.on hb)
        have HT7 := Lib.hid (HT7.out.on hb)
        have HS := Lib.hid (HS.out.trans (hb.mono HS.out.size))
        have BT := Lib.hid (BT.out.on hb)
        have BM := Lib.hid (BM.out.on hb)
        have TZ := Lib.hid (TZ.out.on hb)
        replace BJ := Lib.hid BJ
        clear hb
        refine hK _ _ HS.out (fun _ => ?_)
        clear hK K
        try simp only [Act.put, List.setIfInBounds_toArray, List.set_cons_succ, List.set_cons_zero]
        refine wpAnyH_ready (rs := [9]) (by kernel_rfl) (by simp) ?_
        refine AllReadyH.cons (o := ⟨some 35, .call { callee := .value (.func 36), args := #[.tmp 34], argTypes := #[35] }, 28, _, _, none⟩) rfl (fun K hK => ?_) AllReadyH.nil
        go_simp
        refine (join_blk2 v15 _ 28 BJ.out HK7.out TZ.out (by rw [List.length_replicate]; have := HKL.out; omega)).mono ?_
        rintro e v16 ⟨aj, nj, cj, rfl, hOj, hb⟩
        have HK7 := Lib.hid (HK7.out.on hb)
        have HX7 := Lib.hid (HX7.out.on hb)
        have HT7 := Lib.hid (HT7.out.on hb)
        have HS := Lib.hid (HS.out.trans (hb.mono HS.out.size))
        have BT := Lib.hid (BT.out.on hb)
        have BM := Lib.hid (BM.out.on hb)
        have TZ := Lib.hid (TZ.out.on hb)
        have BJ := Lib.hid (BJ.out.on hb)
        have TJ := Lib.hid (hOj.txt)
        clear hb
        refine hK _ _ HS.out (fun _ => ?_)
        clear hK K
        try simp only [Act.put, List.setIfInBounds_toArray, List.set_cons_succ, List.set_cons_zero]
        refine wpAnyH_ready (rs := [12]) (by kernel_rfl) (by simp) ?_
        refine AllReadyH.cons (o := ⟨some 38, .call { callee := .value (.func 40), args := #[.tmp 35, .tmp 37], argTypes := #[28, 35] }, 31, _, _, none⟩) rfl (fun K hK => ?_) AllReadyH.nil
        go_simp
        refine (mac_blk1 v16 _ 28 BT.out TJ.out HX7.out HT7.out (by simp; have := HKL.out; omega) (by have := HXL.out; omega)).mono ?_
        rintro e v17 ⟨he, hb⟩
        rw [macL_kz (kz_pad key zz HZZ.out), ← HVE.out] at he
        subst he
        have HK7 := Lib.hid (HK7.out.on hb)
        have HX7 := Lib.hid (HX7.out.on hb)
        have HT7 := Lib.hid (HT7.out.on hb)
        have HS := Lib.hid (HS.out.trans (hb.mono HS.out.size))
        have BT := Lib.hid (BT.out.on hb)
        have BM := Lib.hid (BM.out.on hb)
        have TZ := Lib.hid (TZ.out.on hb)
        have BJ := Lib.hid (BJ.out.on hb)
        have TJ := Lib.hid (TJ.out.on hb)
        clear hb
        refine hK _ _ HS.out (fun _ => ?_)
        clear hK K
        refine wpAnyH_take (i := 14) (oi := ⟨some 40, .binOp .eql 31 (.tmp 38) (.tmp 39) 31, 4, _, _, none⟩) (v := .bool true) rfl (by kernel_rfl) (by kernel_rfl) (by kernel_rfl) (fun _ _ _ h => h) (Or.inl ⟨by rfl, fun _ _ => by go_simp⟩) HS.out ?_
        refine wpAnyH_take (i := 15) (oi := ⟨some 6, .assign (.tmp 40), 4, _, _, none⟩) (v := .bool true) rfl (by kernel_rfl) (by kernel_rfl) (by kernel_rfl) (fun _ _ _ h => h) (Or.inl ⟨by rfl, fun _ _ => by go_simp⟩) HS.out ?_
        try simp only [Act.put, List.setIfInBounds_toArray, List.set_cons_succ, List.set_cons_zero]
        refine wpAnyH_done (by kernel_rfl) ?_ _
        go_wp2
        go_ret
        exact ⟨rfl, HB7.out.trans (HS.out.mono HB7.out.size)⟩
    · have HBIG := Lib.hid (show 64 < key.length by have := HN.out; omega)
      have hbig : 64 < n := by omega
      go_wp2_with (first | (refine wpList_store_abs rfl 31 (.tmp 7) (.tmp 22) rfl w3.heap.size (barr V) (by rfl) (by rfl) 31 _ (Blk.new w3 _ _) (by rw [barr_size, HVL.out]; exact size_u8x32) (by rw [barr_size, HVL.out]; rfl) (barr_one_all _) ?_; intro W5 hW5 p5; have qb := Lib.hid (hW5.below (below_one' w3 _) (Nat.le_refl _)); have HV5 := Lib.hid p5; clear hW5 p5) | (go_at_call 30; refine (sum_one W5 28 _ rfl (HK3.out.on qb.out) (HT3.out.on qb.out) (by have := HKL.out; omega)).mono ?_; rintro e w6 ⟨rfl, hb6⟩; have HV6 := Lib.hid (HV5.out.on hb6); have qb6 := Lib.hid (qb.out.trans (hb6.mono qb.out.size)); clear hb6) | (refine wpList_store_abs rfl 31 (.tmp 8) (.tmp 43) rfl w6.heap.size (barr (sha key)) (by rfl) (by rfl) 31 _ (Blk.new w6 _ _) (by rw [barr_size, sha_len]; exact size_u8x32) (by rw [barr_size, sha_len]; rfl) (barr_one_all _) ?_; intro W7 hW7 p7; have r7 := hW7.below (below_one' w6 _) (Nat.le_refl _); have HV7 := Lib.hid (HV6.out.on r7); have HS8 := Lib.hid p7; have qb7 := Lib.hid (qb6.out.trans (r7.mono qb6.out.size)); clear hW7 p7 r7))
      have HX7 := Lib.hid (HX3.out.on qb7.out)
      have HT7 := Lib.hid (HT3.out.on qb7.out)
      have HB7 := Lib.hid (HB3.out.trans (qb7.out.mono HB3.out.size))
      obtain ⟨g7, hg7⟩ : ∃ g, g = w3.heap.size := ⟨_, rfl⟩
      obtain ⟨g8, hg8⟩ : ∃ g, g = w6.heap.size := ⟨_, rfl⟩
      rw [← hg7] at HV7
      rw [← hg8] at HS8
      have TS7 := Lib.hid (out32 HS8.out (sha_len _) (Below.refl _ _))
      clear qb qb6 qb7 HV5 HV6
      simp only [← hg7, ← hg8]
      clear hg7 hg8
      refine wp_region_held_drew (S := fun w' => Below W7.heap.size W7 w') (by kernel_rfl) (Below.refl _ _).drew (fun _ => ?_)
      have HS := Lib.hid ((Below.refl W7.heap.size W7).drew)
      have HX7 := Lib.hid (HX7.out.on (HS.out))
      have HT7 := Lib.hid (HT7.out.on (HS.out))
      have TS7 := Lib.hid (TS7.out.on (HS.out))
      generalize World.drew W7 = v0 at *
      refine wpAnyH_take (i := 0) (oi := ⟨some 44, .slice 31 (.tmp 8) none none none, 28, _, _, none⟩) (v := .slice (some ⟨g8, 0, none⟩) 32 32) rfl (by kernel_rfl) (by kernel_rfl) (by kernel_rfl) (fun _ _ _ h => h) (Or.inl ⟨by rfl, fun _ _ => by go_simp⟩) HS.out ?_
      refine wpAnyH_take (i := 1) (oi := ⟨some 45, .move (.tmp 2), 28, _, _, none⟩) (v := .slice b m d) rfl (by kernel_rfl) (by kernel_rfl) (by kernel_rfl) (fun _ _ _ h => h) (Or.inl ⟨by rfl, fun _ _ => by go_simp⟩) HS.out ?_
      try simp only [Act.put, List.setIfInBounds_toArray, List.set_cons_succ, List.set_cons_zero]
      refine wpAnyH_take (i := 4) (oi := ⟨some 48, .load 31 (.tmp 7), 31, _, _, none⟩) (v := .agg (barr V)) rfl (by kernel_rfl) (by kernel_rfl) (by kernel_rfl) (fun _ _ _ h => h) (Or.inl ⟨by rfl, fun vv hvv => yields_arr 31 (.tmp 7) rfl g7 rfl (HV7.out.on hvv) _ Tryd.underlying31 rfl (by rw [barr_size, HVL.out]; exact size_u8x32)⟩) HS.out ?_
      try simp only [Act.put, List.setIfInBounds_toArray, List.set_cons_succ, List.set_cons_zero]
      refine wpAnyH_ready (rs := [2]) (by kernel_rfl) (by simp) ?_
      refine AllReadyH.cons (o := ⟨some 46, .buildSlice 35 1 #[(0, .tmp 45)], 35, _, _, none⟩) rfl (fun K hK => ?_) AllReadyH.nil
      go_simp
      have BT := Blk.new v0 #[.slice b m d] 28
      have hb := below_one' v0 (.cells #[.slice b m d] 28)
      generalize World.alloc v0 _ = v1 at *
      have HX7 := Lib.hid (HX7.out.on hb)
      have HT7 := Lib.hid (HT7.out.on hb)
      have TS7 := Lib.hid (TS7.out.on hb)
      have HS := Lib.hid (HS.out.trans (hb.mono HS.out.size))
      replace BT := Lib.hid BT
      clear hb
      refine hK _ _ HS.out (fun _ => ?_)
      clear hK K
      try simp only [Act.put, List.setIfInBounds_toArray, List.set_cons_succ, List.set_cons_zero]
      refine wpAnyH_ready (rs := [3]) (by kernel_rfl) (by simp) ?_
      refine AllReadyH.cons (o := ⟨some 47, .call { callee := .value (.func 40), args := #[.tmp 44, .tmp 46], argTypes := #[28, 35] }, 31, _, _, none⟩) rfl (fun K hK => ?_) AllReadyH.nil
      go_simp
      refine (mac_blk1 v1 _ 28 BT.out TS7.out HX7.out HT7.out (by rw [sha_len]; omega) (by have := HXL.out; omega)).mono ?_
      rintro e v2 ⟨he, hb⟩
      rw [macL_kz (kz_sum key HBIG.out), ← HVE.out] at he
      subst he
      have HX7 := Lib.hid (HX7.out.on hb)
      have HT7 := Lib.hid (HT7.out.on hb)
      have TS7 := Lib.hid (TS7.out.on hb)
      have HS := Lib.hid (HS.out.trans (hb.mono HS.out.size))
      have BT := Lib.hid (BT.out.on hb)
      clear hb
      refine hK _ _ HS.out (fun _ => ?_)
      clear hK K
      refine wpAnyH_take (i := 5) (oi := ⟨some 49, .binOp .eql 31 (.tmp 47) (.tmp 48) 31, 4, _, _, none⟩) (v := .bool true) rfl (by kernel_rfl) (by kernel_rfl) (by kernel_rfl) (fun _ _ _ h => h) (Or.inl ⟨by rfl, fun _ _ => by go_simp⟩) HS.out ?_
      refine wpAnyH_take (i := 6) (oi := ⟨some 6, .assign (.tmp 49), 4, _, _, none⟩) (v := .bool true) rfl (by kernel_rfl) (by kernel_rfl) (by kernel_rfl) (fun _ _ _ h => h) (Or.inl ⟨by rfl, fun _ _ => by go_simp⟩) HS.out ?_
      try simp only [Act.put, List.setIfInBounds_toArray, List.set_cons_succ, List.set_cons_zero]
      refine wpAnyH_done (by kernel_rfl) ?_ _
      go_wp2
      go_ret
      exact ⟨rfl, HB7.out.trans (HS.out.mono HB7.out.size)⟩
  · have HF := Lib.hid (show fewB 3000 40 [key, text] = false by simpa using hfew)
    clear hfew hn
    go_enter Tryd.func8, Tryd.ntmps8
    go_wp2_with fail
    refine (live_walk _ HT.out).mono ?_
    rintro e w1 ⟨rfl, hb1⟩
    have HK1 := Lib.hid (HK.out.on hb1)
    have HX1 := Lib.hid (HX.out.on hb1)
    have HB1 := Lib.hid hb1
    clear hb1
    go_wp2_with fail
    refine (few_two w1 28 _ rfl HK1.out HX1.out false HF.out).mono ?_
    rintro e w' ⟨rfl, rfl⟩
    go_wp2_with fail
    refine (live_again HT.out (HB1.out.trans ((below_one' w1 _).mono HB1.out.size))).mono ?_
    rintro e w2 ⟨rfl, hb2⟩
    go_wp2
    go_ret
    exact ⟨rfl, hb2⟩
end Go.Proofs.YtgbahfggnbpnmaaDoor
