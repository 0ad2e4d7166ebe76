import Derived.Test.YtgbahfggnbpnmaaDoorROpen
import Derived.Test.YtgbahfggnbpnmaaDoorLawSealBack
/-
  The walk of liverylaw04.SealSeals.
-/
namespace Go.Proofs.YtgbahfggnbpnmaaDoor
open Go.RowKit
set_option maxRecDepth 100000 in
set_option maxHeartbeats 4000000 in
theorem sealseals_walk (key nonce ad plain : List UInt8) (hk : key.length = 32) (hnon : nonce.length = 12) (a b : Option Addr) (n c m d : Nat) (w : World) (hA : Txt w a n c ad) (hX : Txt w b m d plain) (hT : Two w) :
    Calls Tryd.prog 11 #[.agg (barr key), .agg (barr nonce), .slice a n c, .slice b m d] w fun e w' => e = .returned (.bool true) ∧ Below w.heap.size w w' := by
  have bx := Boxed.new w key nonce
  have HX0 := Lib.hid bx
  have HA0 := Lib.hid (hA.on bx.b)
  have HP0 := Lib.hid (hX.on bx.b)
  have HT0 := Lib.hid (hT.on bx.b)
  have HTw := Lib.hid hT
  have HS1 := Lib.hid (show (Tryd.prog.info? 31).map (·.size) = some (barr key).size by rw [barr_size, hk]; exact size_u8x32)
  have HS2 := Lib.hid (show (Tryd.prog.info? 62).map (·.size) = some (barr nonce).size by rw [barr_size, hnon]; exact size_u8x12)
  have HKL := Lib.hid hk
  have HNL := Lib.hid hnon
  have HM := Lib.hid hX.len
  clear bx hA hX hT hk hnon
  by_cases hfew : fewOf 2000 [ad, plain] = true
  · have HF := Lib.hid hfew
    have HAL := Lib.hid (few4_2 hfew).1
    have HPL := Lib.hid (few4_2 hfew).2
    clear hfew
    go_enter Tryd.func11, Tryd.ntmps11
    go_wp2_with fail
    refine (live4_walk _ HT0.out).mono ?_
    rintro e w1 ⟨rfl, hb⟩
    have HX1 := Lib.hid (HX0.out.on hb)
    have HA1 := Lib.hid (HA0.out.on hb)
    have HP1 := Lib.hid (HP0.out.on hb)
    have HT1 := Lib.hid (HT0.out.on hb)
    clear hb HX0 HA0 HP0 HT0
    go_wp2_with fail
    refine (few4_two w1 28 _ rfl HA1.out HP1.out true HF.out).mono ?_
    rintro e w2 ⟨rfl, hw2⟩
    have hb : Below w1.heap.size w1 w2 := by rw [hw2]; exact below_one' w1 _
    clear hw2
    have HX2 := Lib.hid (HX1.out.on hb)
    have HA2 := Lib.hid (HA1.out.on hb)
    have HP2 := Lib.hid (HP1.out.on hb)
    have HT2 := Lib.hid (HT1.out.on hb)
    clear hb HX1 HA1 HP1 HT1
    go_wp2_with fail
    refine (join1 w2 28 _ rfl HA2.out (by have := HAL.out; omega)).mono ?_
    rintro e w3 ⟨a3, n3, c3, rfl, hO, hb⟩
    have HX3 := Lib.hid (HX2.out.on hb)
    have HA3 := Lib.hid (HA2.out.on hb)
    have HP3 := Lib.hid (HP2.out.on hb)
    have HT3 := Lib.hid (HT2.out.on hb)
    clear hb HX2 HA2 HP2 HT2
    have TJ3 := Lib.hid hO.txt
    clear hO
    go_wp2_with fail
    refine (join1 w3 28 _ rfl HP3.out (by have := HPL.out; omega)).mono ?_
    rintro e w4 ⟨a4, n4, c4, rfl, hO, hb⟩
    have HX4 := Lib.hid (HX3.out.on hb)
    have HA4 := Lib.hid (HA3.out.on hb)
    have HP4 := Lib.hid (HP3.out.on hb)
    have HT4 := Lib.hid (HT3.out.on hb)
    have TJ4 := Lib.hid (TJ3.out.on hb)
    clear hb HX3 HA3 HP3 HT3 TJ3
    have TK4 := Lib.hid hO.txt
    clear hO
    go_wp2_with (first | (refine wpList_load_row rfl 31 (.tmp 4) rfl w.heap.size rfl 31 _ _ _ HX4.out.k Tryd.underlying31 rfl HS1.out ?_) | (refine wpList_load_row rfl 62 (.tmp 5) rfl (w.heap.size + 1) rfl 62 _ _ _ HX4.out.n Tryd.underlying62 rfl HS2.out ?_))
    refine (seal_walk key nonce ad plain HKL.out HNL.out _ _ _ _ _ _ w4 TJ4.out TK4.out HT4.out (by have := HAL.out; omega) (by have := HPL.out; omega)).mono ?_
    rintro e w5 ⟨a5, n5, c5, rfl, hO, hb⟩
    have HX5 := Lib.hid (HX4.out.on hb)
    have HA5 := Lib.hid (HA4.out.on hb)
    have HP5 := Lib.hid (HP4.out.on hb)
    have HT5 := Lib.hid (HT4.out.on hb)
    have TJ5 := Lib.hid (TJ4.out.on hb)
    have TK5 := Lib.hid (TK4.out.on hb)
    clear hb HX4 HA4 HP4 HT4 TJ4 TK4
    have TO5 := Lib.hid hO.txt
    clear hO
    have TKb := Lib.hid (out32 HX5.out.k HKL.out (Below.refl _ _))
    have TNb := Lib.hid (by have h := Txt.of_blk HX5.out.n; rw [HNL.out] at h; exact h)
    go_wp2
    refine wp_region_held_drew (S := fun w' => Below w5.heap.size w5 w') (by kernel_rfl) (Below.refl _ _).drew (fun _ => ?_)
    have HS := Lib.hid ((Below.refl w5.heap.size w5).drew)
    have TO5 := Lib.hid (TO5.out.on (HS.out))
    have TJ5 := Lib.hid (TJ5.out.on (HS.out))
    have TK5 := Lib.hid (TK5.out.on (HS.out))
    have HA5 := Lib.hid (HA5.out.on (HS.out))
    have HP5 := Lib.hid (HP5.out.on (HS.out))
    have TKb := Lib.hid (TKb.out.on (HS.out))
    have TNb := Lib.hid (TNb.out.on (HS.out))
    generalize World.drew w5 = v0 at *
    try simp only [Act.put, List.setIfInBounds_toArray, List.set_cons_succ, List.set_cons_zero]
    refine wpAnyH_take (i := 0) (oi := ⟨some 33, .move (.tmp 11), 28, _, _, none⟩) (v := .slice a5 n5 c5) rfl (by kernel_rfl) (by kernel_rfl) (by kernel_rfl) (fun _ _ _ h => h) (Or.inl ⟨by rfl, fun _ _ => by go_simp⟩) HS.out ?_
    try simp only [Act.put, List.setIfInBounds_toArray, List.set_cons_succ, List.set_cons_zero]
    refine wpAnyH_take (i := 1) (oi := ⟨some 34, .slice 31 (.tmp 4) none none none, 28, _, _, none⟩) (v := .slice (some ⟨w.heap.size, 0, none⟩) 32 32) rfl (by kernel_rfl) (by kernel_rfl) (by kernel_rfl) (fun _ _ _ h => h) (Or.inl ⟨by rfl, fun _ _ => by go_simp⟩) HS.out ?_
    try simp only [Act.put, List.setIfInBounds_toArray, List.set_cons_succ, List.set_cons_zero]
    refine wpAnyH_take (i := 2) (oi := ⟨some 35, .slice 62 (.tmp 5) none none none, 28, _, _, none⟩) (v := .slice (some ⟨w.heap.size + 1, 0, none⟩) 12 12) rfl (by kernel_rfl) (by kernel_rfl) (by kernel_rfl) (fun _ _ _ h => h) (Or.inl ⟨by rfl, fun _ _ => by go_simp⟩) HS.out ?_
    try simp only [Act.put, List.setIfInBounds_toArray, List.set_cons_succ, List.set_cons_zero]
    refine wpAnyH_take (i := 3) (oi := ⟨some 36, .move (.tmp 2), 28, _, _, none⟩) (v := .slice a n c) rfl (by kernel_rfl) (by kernel_rfl) (by kernel_rfl) (fun _ _ _ h => h) (Or.inl ⟨by rfl, fun _ _ => by go_simp⟩) HS.out ?_
    try simp only [Act.put, List.setIfInBounds_toArray, List.set_cons_succ, List.set_cons_zero]
    refine wpAnyH_take (i := 4) (oi := ⟨some 37, .move (.tmp 3), 28, _, _, none⟩) (v := .slice b m d) rfl (by kernel_rfl) (by kernel_rfl) (by kernel_rfl) (fun _ _ _ h => h) (Or.inl ⟨by rfl, fun _ _ => by go_simp⟩) HS.out ?_
    try simp only [Act.put, List.setIfInBounds_toArray, List.set_cons_succ, List.set_cons_zero]
    refine wpAnyH_ready (rs := [5]) (by kernel_rfl) (by simp) ?_
    refine AllReadyH.cons (o := ⟨some 38, .call { callee := .value (.func 48), args := #[.tmp 34, .tmp 35, .tmp 36, .tmp 37], argTypes := #[28, 28, 28, 28] }, 28, _, _, none⟩) rfl (fun K hK => ?_) AllReadyH.nil
    go_simp
    refine (rseal_walk key nonce ad plain HKL.out HNL.out _ _ _ _ _ _ _ _ _ _ _ _ v0 TKb.out TNb.out HA5.out HP5.out (by have := HAL.out; omega) (by have := HPL.out; omega)).mono ?_
    rintro e v1 ⟨a6, n6, c6, rfl, hT6, hb⟩
    have TO5 := Lib.hid (TO5.out.on hb)
    have TJ5 := Lib.hid (TJ5.out.on hb)
    have TK5 := Lib.hid (TK5.out.on hb)
    have HA5 := Lib.hid (HA5.out.on hb)
    have HP5 := Lib.hid (HP5.out.on hb)
    have TKb := Lib.hid (TKb.out.on hb)
    have TNb := Lib.hid (TNb.out.on hb)
    have HS := Lib.hid (HS.out.trans (hb.mono HS.out.size))
    have TR := Lib.hid (hT6)
    clear hb hT6
    refine hK _ _ HS.out (fun _ => ?_)
    clear hK K
    try simp only [Act.put, List.setIfInBounds_toArray, List.set_cons_succ, List.set_cons_zero]
    refine wpAnyH_ready (rs := [6]) (by kernel_rfl) (by simp) ?_
    refine AllReadyH.cons (o := ⟨some 39, .call { callee := .value (.func 38), args := #[.tmp 33, .tmp 38], argTypes := #[28, 28] }, 4, _, _, none⟩) rfl (fun K hK => ?_) AllReadyH.nil
    go_simp
    refine (equal_same _ _ _ _ _ _ _ v1 TO5.out TR.out).mono ?_
    rintro e w' ⟨rfl, rfl⟩
    refine hK _ _ HS.out (fun _ => ?_)
    clear hK K
    try simp only [Act.put, List.setIfInBounds_toArray, List.set_cons_succ, List.set_cons_zero]
    refine wpAnyH_take (i := 7) (oi := ⟨some 40, .move (.tmp 39), 4, _, _, none⟩) (v := .bool true) rfl (by kernel_rfl) (by kernel_rfl) (by kernel_rfl) (fun _ _ _ h => h) (Or.inl ⟨by rfl, fun _ _ => by go_simp⟩) HS.out ?_
    try simp only [Act.put, List.setIfInBounds_toArray, List.set_cons_succ, List.set_cons_zero]
    refine wpAnyH_take (i := 8) (oi := ⟨some 41, .move (.tmp 9), 28, _, _, some (7, true)⟩) (v := .slice a3 n3 c3) rfl (by kernel_rfl) (by kernel_rfl) (by kernel_rfl) (fun _ _ _ h => h) (Or.inl ⟨by rfl, fun _ _ => by go_simp⟩) HS.out ?_
    try simp only [Act.put, List.setIfInBounds_toArray, List.set_cons_succ, List.set_cons_zero]
    refine wpAnyH_take (i := 9) (oi := ⟨some 42, .move (.tmp 2), 28, _, _, some (7, true)⟩) (v := .slice a n c) rfl (by kernel_rfl) (by kernel_rfl) (by kernel_rfl) (fun _ _ _ h => h) (Or.inl ⟨by rfl, fun _ _ => by go_simp⟩) HS.out ?_
    try simp only [Act.put, List.setIfInBounds_toArray, List.set_cons_succ, List.set_cons_zero]
    refine wpAnyH_ready (rs := [10]) (by kernel_rfl) (by simp) ?_
    refine AllReadyH.cons (o := ⟨some 43, .call { callee := .value (.func 38), args := #[.tmp 41, .tmp 42], argTypes := #[28, 28] }, 4, _, _, some (7, true)⟩) rfl (fun K hK => ?_) AllReadyH.nil
    go_simp
    refine (equal_same _ _ _ _ _ _ _ v1 TJ5.out HA5.out).mono ?_
    rintro e w' ⟨rfl, rfl⟩
    refine hK _ _ HS.out (fun _ => ?_)
    clear hK K
    try simp only [Act.put, List.setIfInBounds_toArray, List.set_cons_succ, List.set_cons_zero]
    refine wpAnyH_take (i := 11) (oi := ⟨some 44, .pick (.tmp 40) (.tmp 43) (.const (.bool false)), 4, _, _, none⟩) (v := .bool true) rfl (by kernel_rfl) (by kernel_rfl) (by kernel_rfl) (fun _ _ _ h => h) (Or.inl ⟨by rfl, fun _ _ => by go_simp⟩) HS.out ?_
    try simp only [Act.put, List.setIfInBounds_toArray, List.set_cons_succ, List.set_cons_zero]
    refine wpAnyH_take (i := 12) (oi := ⟨some 45, .move (.tmp 44), 4, _, _, none⟩) (v := .bool true) rfl (by kernel_rfl) (by kernel_rfl) (by kernel_rfl) (fun _ _ _ h => h) (Or.inl ⟨by rfl, fun _ _ => by go_simp⟩) HS.out ?_
    try simp only [Act.put, List.setIfInBounds_toArray, List.set_cons_succ, List.set_cons_zero]
    refine wpAnyH_take (i := 13) (oi := ⟨some 46, .move (.tmp 10), 28, _, _, some (12, true)⟩) (v := .slice a4 n4 c4) rfl (by kernel_rfl) (by kernel_rfl) (by kernel_rfl) (fun _ _ _ h => h) (Or.inl ⟨by rfl, fun _ _ => by go_simp⟩) HS.out ?_
    try simp only [Act.put, List.setIfInBounds_toArray, List.set_cons_succ, List.set_cons_zero]
    refine wpAnyH_take (i := 14) (oi := ⟨some 47, .move (.tmp 3), 28, _, _, some (12, true)⟩) (v := .slice b m d) rfl (by kernel_rfl) (by kernel_rfl) (by kernel_rfl) (fun _ _ _ h => h) (Or.inl ⟨by rfl, fun _ _ => by go_simp⟩) HS.out ?_
    try simp only [Act.put, List.setIfInBounds_toArray, List.set_cons_succ, List.set_cons_zero]
    refine wpAnyH_ready (rs := [15]) (by kernel_rfl) (by simp) ?_
    refine AllReadyH.cons (o := ⟨some 48, .call { callee := .value (.func 38), args := #[.tmp 46, .tmp 47], argTypes := #[28, 28] }, 4, _, _, some (12, true)⟩) rfl (fun K hK => ?_) AllReadyH.nil
    go_simp
    refine (equal_same _ _ _ _ _ _ _ v1 TK5.out HP5.out).mono ?_
    rintro e w' ⟨rfl, rfl⟩
    refine hK _ _ HS.out (fun _ => ?_)
    clear hK K
    try simp only [Act.put, List.setIfInBounds_toArray, List.set_cons_succ, List.set_cons_zero]
    refine wpAnyH_take (i := 16) (oi := ⟨some 49, .pick (.tmp 45) (.tmp 48) (.const (.bool false)), 4, _, _, none⟩) (v := .bool true) rfl (by kernel_rfl) (by kernel_rfl) (by kernel_rfl) (fun _ _ _ h => h) (Or.inl ⟨by rfl, fun _ _ => by go_simp⟩) HS.out ?_
    try simp only [Act.put, List.setIfInBounds_toArray, List.set_cons_succ, List.set_cons_zero]
    refine wpAnyH_take (i := 17) (oi := ⟨some 8, .assign (.tmp 49), 4, _, _, none⟩) (v := .bool true) rfl (by kernel_rfl) (by kernel_rfl) (by kernel_rfl) (fun _ _ _ h => h) (Or.inl ⟨by rfl, fun _ _ => by go_simp⟩) HS.out ?_
    try simp only [Act.put, List.setIfInBounds_toArray, List.set_cons_succ, List.set_cons_zero]
    refine wpAnyH_done (by kernel_rfl) ?_ _
    go_wp2
    go_ret
    exact ⟨rfl, HX5.out.b.trans (HS.out.mono HX5.out.b.size)⟩
  · have HF := Lib.hid (show fewOf 2000 [ad, plain] = false by simpa using hfew)
    clear hfew
    go_enter Tryd.func11, Tryd.ntmps11
    go_wp2_with fail
    refine (live4_walk _ HT0.out).mono ?_
    rintro e w1 ⟨rfl, hb1⟩
    have HA1 := Lib.hid (HA0.out.on hb1)
    have HP1 := Lib.hid (HP0.out.on hb1)
    have HB1 := Lib.hid (HX0.out.on hb1).b
    clear hb1
    go_wp2_with fail
    refine (few4_two w1 28 _ rfl HA1.out HP1.out false HF.out).mono ?_
    rintro e w2 ⟨rfl, hw2⟩
    have HB2 := Lib.hid (show Below w.heap.size w w2 by rw [hw2]; exact HB1.out.trans ((below_one' w1 _).mono HB1.out.size))
    clear hw2
    go_wp2_with fail
    refine (live4_again HTw.out HB2.out).mono ?_
    rintro e w3 ⟨rfl, hb3⟩
    go_wp2
    go_ret
    exact ⟨rfl, hb3⟩
end Go.Proofs.YtgbahfggnbpnmaaDoor
