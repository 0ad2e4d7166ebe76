import Derived.Test.YtgbahfggnbpnmaaDoorRSeal
import Derived.Test.YtgbahfggnbpnmaaDoorLawSealBack
/-
  The walk of liverylaw04.SealKeys.
-/
namespace Go.Proofs.YtgbahfggnbpnmaaDoor
open Go.RowKit
/-- What is answered to any length that is not too long to be tried here. -/
def streamA (enc nonce : List UInt8) (i : Int) : List UInt8 := if i < 0 ∨ 1048576 < i then [] else streamL enc nonce i.toNat
def errA (i : Int) : Int := if i < 0 then 1 else if 1048576 < i then 3 else 0
theorem askstream_any (enc nonce : List UInt8) (hnon : nonce.length = 12) (a : Option Addr) (n c : Nat) (i : Int) (hi : i ≤ 5000 ∨ 1048576 < i) (w : World) (hK : Txt w a n c enc) (hT : Two w) (hlen : enc.length ≤ 1152921504606) :
    Calls Tryd.prog 54 #[.slice a n c, .agg (barr nonce), .int .i64 i] w fun e w' => ∃ a' n' c', e = .returned (.tuple #[.slice a' n' c', .int .i64 (errA i)]) ∧ Txt w' a' n' c' (streamA enc nonce i) ∧ Below w.heap.size w w' := by
  by_cases h0 : i < 0
  · have e1 : errA i = 1 := by unfold errA; rw [if_pos h0]
    have e2 : streamA enc nonce i = [] := by unfold streamA; rw [if_pos (.inl h0)]
    rw [e1, e2]
    exact (askstream_neg _ nonce i h0 w).mono fun e w' ⟨he, hb⟩ => ⟨none, 0, 0, he, Txt.nil _ _, hb⟩
  · by_cases h1 : 1048576 < i
    · have e1 : errA i = 3 := by unfold errA; rw [if_neg h0, if_pos h1]
      have e2 : streamA enc nonce i = [] := by unfold streamA; rw [if_pos (.inr h1)]
      rw [e1, e2]
      exact (askstream_long _ nonce i h1 w).mono fun e w' ⟨he, hb⟩ => ⟨none, 0, 0, he, Txt.nil _ _, hb⟩
    · have e1 : errA i = 0 := by unfold errA; rw [if_neg h0, if_neg h1]
      have e2 : streamA enc nonce i = streamL enc nonce i.toNat := by unfold streamA; rw [if_neg (by omega)]
      rw [e1, e2]
      obtain ⟨k, rfl⟩ : ∃ k : Nat, i = (k : Int) := ⟨i.toNat, by omega⟩
      exact (askstream_walk enc nonce hnon a n c k (by omega) w hK hT hlen).mono fun e w' ⟨g, he, ht, hb⟩ => ⟨_, _, _, he, ht, hb⟩
theorem rask_any (enc nonce : List UInt8) (hnon : nonce.length = 12) (a b : Option Addr) (n c m d : Nat) (i : Int) (hi : i ≤ 5000 ∨ 1048576 < i) (w : World) (hK : Txt w a n c enc) (hX : Txt w b m d nonce) (hlen : enc.length ≤ 1152921504606) :
    Calls Tryd.prog 55 #[.slice a n c, .slice b m d, .int .i64 i] w fun e w' => ∃ a' n' c', e = .returned (.tuple #[.slice a' n' c', .int .i64 (errA i)]) ∧ Txt w' a' n' c' (streamA enc nonce i) ∧ Below w.heap.size w w' := by
  by_cases h0 : i < 0
  · have e1 : errA i = 1 := by unfold errA; rw [if_pos h0]
    have e2 : streamA enc nonce i = [] := by unfold streamA; rw [if_pos (.inl h0)]
    rw [e1, e2]
    exact (rask_neg _ _ i h0 w).mono fun e w' ⟨he, hb⟩ => ⟨none, 0, 0, he, Txt.nil _ _, by rw [hb]; exact Below.refl _ _⟩
  · by_cases h1 : 1048576 < i
    · have e1 : errA i = 3 := by unfold errA; rw [if_neg h0, if_pos h1]
      have e2 : streamA enc nonce i = [] := by unfold streamA; rw [if_pos (.inr h1)]
      rw [e1, e2]
      exact (rask_long _ _ i h1 w).mono fun e w' ⟨he, hb⟩ => ⟨none, 0, 0, he, Txt.nil _ _, by rw [hb]; exact Below.refl _ _⟩
    · have e1 : errA i = 0 := by unfold errA; rw [if_neg h0, if_neg h1]
      have e2 : streamA enc nonce i = streamL enc nonce i.toNat := by unfold streamA; rw [if_neg (by omega)]
      rw [e1, e2]
      obtain ⟨k, rfl⟩ : ∃ k : Nat, i = (k : Int) := ⟨i.toNat, by omega⟩
      exact (rask_walk enc nonce hnon a b n c m d k (by omega) w hK hX hlen).mono fun e w' ⟨a', c', he, ht, hb⟩ => ⟨_, _, _, he, ht, hb⟩
set_option maxRecDepth 100000 in
set_option maxHeartbeats 4000000 in
theorem sealkeys_long (key nonce ad text : List UInt8) (hk : key.length = 32) (hnon : nonce.length = 12) (a b : Option Addr) (n c m d : Nat) (i : Int) (w : World) (hA : Txt w a n c ad) (hX : Txt w b m d text) (hT : Two w) (hfew : fewOf 2000 [ad, text] = true) (h5 : 5000 < i) (h6 : 1048576 < i) :
    Calls Tryd.prog 16 #[.agg (barr key), .agg (barr nonce), .int .i64 i, .slice a n c, .slice b m d] w fun e w' => e = .returned (.bool true) ∧ Below w.heap.size w w' := by
  have bx := Boxed.new w key nonce
  have HX0 := Lib.hid bx
  have HA0 := Lib.hid (hA.on bx.b)
  have HP0 := Lib.hid (hX.on bx.b)
  have HT0 := Lib.hid (hT.on bx.b)
  have HTw := Lib.hid hT
  have HS1 := Lib.hid (show (Tryd.prog.info? 31).map (·.size) = some (barr key).size by rw [barr_size, hk]; exact size_u8x32)
  have HS2 := Lib.hid (show (Tryd.prog.info? 62).map (·.size) = some (barr nonce).size by rw [barr_size, hnon]; exact size_u8x12)
  have HKL := Lib.hid hk
  have HNL := Lib.hid hnon
  have HF := Lib.hid hfew
  have HAL := Lib.hid (few4_2 hfew).1
  have HPL := Lib.hid (few4_2 hfew).2
  have hi : i ≤ 5000 ∨ 1048576 < i := .inr h6
  clear bx hA hX hT hk hnon hfew
  go_enter Tryd.func16, Tryd.ntmps16
  go_wp2_with fail
  refine (live4_walk _ HT0.out).mono ?_
  rintro e w1 ⟨rfl, hb⟩
  have HX1 := Lib.hid (HX0.out.on hb)
  have HA1 := Lib.hid (HA0.out.on hb)
  have HP1 := Lib.hid (HP0.out.on hb)
  have HT1 := Lib.hid (HT0.out.on hb)
  clear hb HX0 HA0 HP0 HT0
  go_wp2_with fail
  refine (few4_two w1 28 _ rfl HA1.out HP1.out true HF.out).mono ?_
  rintro e w2 ⟨rfl, hw2⟩
  have hb : Below w1.heap.size w1 w2 := by rw [hw2]; exact below_one' w1 _
  clear hw2
  have HX2 := Lib.hid (HX1.out.on hb)
  have HA2 := Lib.hid (HA1.out.on hb)
  have HP2 := Lib.hid (HP1.out.on hb)
  have HT2 := Lib.hid (HT1.out.on hb)
  clear hb HX1 HA1 HP1 HT1
  go_wp2_with (first | (refine wpList_load_row rfl 31 (.tmp 5) rfl w.heap.size rfl 31 _ _ _ HX2.out.k Tryd.underlying31 rfl HS1.out ?_) | (refine wpList_load_row rfl 62 (.tmp 6) rfl (w.heap.size + 1) rfl 62 _ _ _ HX2.out.n Tryd.underlying62 rfl HS2.out ?_))
  refine (keys_walk key HKL.out _ HT2.out).mono ?_
  rintro e w3 ⟨a1, c1, a2, c2, rfl, hE, hM, hb⟩
  have HX3 := Lib.hid (HX2.out.on hb)
  have HA3 := Lib.hid (HA2.out.on hb)
  have HP3 := Lib.hid (HP2.out.on hb)
  have HT3 := Lib.hid (HT2.out.on hb)
  clear hb HX2 HA2 HP2 HT2
  have TE3 := Lib.hid hE
  have TM3 := Lib.hid hM
  clear hE hM
  have HKT := Lib.hid (out32 HX3.out.k HKL.out (Below.refl _ _))
  go_wp2_with fail
  refine (rkeys_walk key HKL.out _ _ _ _ HKT.out).mono ?_
  rintro e w4 ⟨a3, c3, a4, c4, rfl, hE, hM, hb⟩
  clear HKT
  have HX4 := Lib.hid (HX3.out.on hb)
  have HA4 := Lib.hid (HA3.out.on hb)
  have HP4 := Lib.hid (HP3.out.on hb)
  have HT4 := Lib.hid (HT3.out.on hb)
  have TE4 := Lib.hid (TE3.out.on hb)
  have TM4 := Lib.hid (TM3.out.on hb)
  clear hb HX3 HA3 HP3 HT3 TE3 TM3
  have TF4 := Lib.hid hE
  have TN4 := Lib.hid hM
  clear hE hM
  go_wp2_with (first | (refine wpList_load_row rfl 31 (.tmp 5) rfl w.heap.size rfl 31 _ _ _ HX4.out.k Tryd.underlying31 rfl HS1.out ?_) | (refine wpList_load_row rfl 62 (.tmp 6) rfl (w.heap.size + 1) rfl 62 _ _ _ HX4.out.n Tryd.underlying62 rfl HS2.out ?_))
  refine (askstream_any ad nonce HNL.out a n c i hi _ HA4.out HT4.out (by have := HAL.out; omega)).mono ?_
  rintro e w5 ⟨ax, nx, cx, rfl, hx, hb⟩
  have HX5 := Lib.hid (HX4.out.on hb)
  have HA5 := Lib.hid (HA4.out.on hb)
  have HP5 := Lib.hid (HP4.out.on hb)
  have HT5 := Lib.hid (HT4.out.on hb)
  have TE5 := Lib.hid (TE4.out.on hb)
  have TM5 := Lib.hid (TM4.out.on hb)
  have TF5 := Lib.hid (TF4.out.on hb)
  have TN5 := Lib.hid (TN4.out.on hb)
  clear hb HX4 HA4 HP4 HT4 TE4 TM4 TF4 TN4
  have TX5 := Lib.hid hx
  clear hx
  have TNo := Lib.hid (by have h := Txt.of_blk HX5.out.n; rw [HNL.out] at h; exact h)
  go_wp2_with fail
  refine (rask_any ad nonce HNL.out a _ n c 12 12 i hi _ HA5.out TNo.out (by have := HAL.out; omega)).mono ?_
  rintro e w6 ⟨ay, ny, cy, rfl, hy, hb⟩
  clear TNo
  have HX6 := Lib.hid (HX5.out.on hb)
  have HA6 := Lib.hid (HA5.out.on hb)
  have HP6 := Lib.hid (HP5.out.on hb)
  have HT6 := Lib.hid (HT5.out.on hb)
  have TE6 := Lib.hid (TE5.out.on hb)
  have TM6 := Lib.hid (TM5.out.on hb)
  have TF6 := Lib.hid (TF5.out.on hb)
  have TN6 := Lib.hid (TN5.out.on hb)
  have TX6 := Lib.hid (TX5.out.on hb)
  clear hb HX5 HA5 HP5 HT5 TE5 TM5 TF5 TN5 TX5
  have TY6 := Lib.hid hy
  clear hy
  go_wp2_with (first | (refine wpList_load_row rfl 31 (.tmp 5) rfl w.heap.size rfl 31 _ _ _ HX6.out.k Tryd.underlying31 rfl HS1.out ?_) | (refine wpList_load_row rfl 62 (.tmp 6) rfl (w.heap.size + 1) rfl 62 _ _ _ HX6.out.n Tryd.underlying62 rfl HS2.out ?_))
  refine (tag_walk ad nonce ad text HNL.out a a b n c n c m d _ HA6.out HA6.out HP6.out HT6.out (by have := HAL.out; omega) (by have := HAL.out; omega) (by have := HPL.out; omega)).mono ?_
  rintro e w7 ⟨he, hb⟩
  obtain ⟨V, hV⟩ : ∃ V, V = tagL ad nonce ad text := ⟨_, rfl⟩
  rw [← hV] at he
  subst he
  have HVL := Lib.hid (show V.length = 32 by rw [hV, tagL_len])
  have HVE := Lib.hid hV
  clear hV
  have HX7 := Lib.hid (HX6.out.on hb)
  have HA7 := Lib.hid (HA6.out.on hb)
  have HP7 := Lib.hid (HP6.out.on hb)
  have HT7 := Lib.hid (HT6.out.on hb)
  have TE7 := Lib.hid (TE6.out.on hb)
  have TM7 := Lib.hid (TM6.out.on hb)
  have TF7 := Lib.hid (TF6.out.on hb)
  have TN7 := Lib.hid (TN6.out.on hb)
  have TX7 := Lib.hid (TX6.out.on hb)
  have TY7 := Lib.hid (TY6.out.on hb)
  clear hb HX6 HA6 HP6 HT6 TE6 TM6 TF6 TN6 TX6 TY6
  go_wp2_with (refine wpList_store_abs rfl 31 (.tmp 19) (.tmp 66) rfl w7.heap.size (barr V) (by rfl) (by rfl) 31 _ (Blk.new w7 _ _) (by rw [barr_size, HVL.out]; exact size_u8x32) (by rw [barr_size, HVL.out]; rfl) (barr_one_all _) ?_; intro W9 hW9 p9; have hb := hW9.below (below_one' w7 _) (Nat.le_refl _); have TG := Lib.hid (by have h := out32 p9 HVL.out (Below.refl _ _); rw [HVE.out] at h; exact h); have HA := Lib.hid (HA7.out.on hb); have HP := Lib.hid (HP7.out.on hb); have TE := Lib.hid (TE7.out.on hb); have TM := Lib.hid (TM7.out.on hb); have TF := Lib.hid (TF7.out.on hb); have TN := Lib.hid (TN7.out.on hb); have TX := Lib.hid (TX7.out.on hb); have TY := Lib.hid (TY7.out.on hb); have TNo := Lib.hid (by have h := Txt.of_blk (HX7.out.n.on hb); rw [HNL.out] at h; exact h); have HBX := Lib.hid (HX7.out.on hb).b; clear hW9 p9 hb)
  obtain ⟨g19, hg19⟩ : ∃ g, g = w7.heap.size := ⟨_, rfl⟩
  rw [← hg19] at TG
  simp only [← hg19]
  clear hg19 HX7 HA7 HP7 HT7 TE7 TM7 TF7 TN7 TX7 TY7
  obtain ⟨er, her⟩ : ∃ z, z = errA i := ⟨_, rfl⟩
  simp only [← her]
  clear her
  refine wp_region_held_drew (S := fun w' => Below W9.heap.size W9 w') (by kernel_rfl) (Below.refl _ _).drew (fun _ => ?_)
  have HS := Lib.hid ((Below.refl W9.heap.size W9).drew)
  have TE := Lib.hid (TE.out.on (HS.out))
  have TF := Lib.hid (TF.out.on (HS.out))
  have TM := Lib.hid (TM.out.on (HS.out))
  have TN := Lib.hid (TN.out.on (HS.out))
  have TX := Lib.hid (TX.out.on (HS.out))
  have TY := Lib.hid (TY.out.on (HS.out))
  have TG := Lib.hid (TG.out.on (HS.out))
  have HA := Lib.hid (HA.out.on (HS.out))
  have HP := Lib.hid (HP.out.on (HS.out))
  have TNo := Lib.hid (TNo.out.on (HS.out))
  generalize World.drew W9 = v0 at *
  try simp only [Act.put, List.setIfInBounds_toArray, List.set_cons_succ, List.set_cons_zero]
  refine wpAnyH_take (i := 0) (oi := ⟨some 67, .move (.tmp 11), 28, _, _, none⟩) (v := .slice a1 32 c1) rfl (by kernel_rfl) (by kernel_rfl) (by kernel_rfl) (fun _ _ _ h => h) (Or.inl ⟨by rfl, fun _ _ => by go_simp⟩) HS.out ?_
  try simp only [Act.put, List.setIfInBounds_toArray, List.set_cons_succ, List.set_cons_zero]
  refine wpAnyH_take (i := 1) (oi := ⟨some 68, .move (.tmp 13), 28, _, _, none⟩) (v := .slice a3 32 c3) rfl (by kernel_rfl) (by kernel_rfl) (by kernel_rfl) (fun _ _ _ h => h) (Or.inl ⟨by rfl, fun _ _ => by go_simp⟩) HS.out ?_
  try simp only [Act.put, List.setIfInBounds_toArray, List.set_cons_succ, List.set_cons_zero]
  refine wpAnyH_ready (rs := [2]) (by kernel_rfl) (by simp) ?_
  refine AllReadyH.cons (o := ⟨some 69, .call { callee := .value (.func 38), args := #[.tmp 67, .tmp 68], argTypes := #[28, 28] }, 4, _, _, none⟩) rfl (fun K hK => ?_) AllReadyH.nil
  go_simp
  refine (equal_same _ _ _ _ _ _ _ v0 TE.out TF.out).mono ?_
  rintro e w' ⟨rfl, rfl⟩
  refine hK _ _ HS.out (fun _ => ?_)
  clear hK K
  try simp only [Act.put, List.setIfInBounds_toArray, List.set_cons_succ, List.set_cons_zero]
  refine wpAnyH_take (i := 3) (oi := ⟨some 70, .move (.tmp 69), 4, _, _, none⟩) (v := .bool true) rfl (by kernel_rfl) (by kernel_rfl) (by kernel_rfl) (fun _ _ _ h => h) (Or.inl ⟨by rfl, fun _ _ => by go_simp⟩) HS.out ?_
  try simp only [Act.put, List.setIfInBounds_toArray, List.set_cons_succ, List.set_cons_zero]
  refine wpAnyH_take (i := 4) (oi := ⟨some 71, .move (.tmp 12), 28, _, _, some (3, true)⟩) (v := .slice a2 32 c2) rfl (by kernel_rfl) (by kernel_rfl) (by kernel_rfl) (fun _ _ _ h => h) (Or.inl ⟨by rfl, fun _ _ => by go_simp⟩) HS.out ?_
  try simp only [Act.put, List.setIfInBounds_toArray, List.set_cons_succ, List.set_cons_zero]
  refine wpAnyH_take (i := 5) (oi := ⟨some 72, .move (.tmp 14), 28, _, _, some (3, true)⟩) (v := .slice a4 32 c4) rfl (by kernel_rfl) (by kernel_rfl) (by kernel_rfl) (fun _ _ _ h => h) (Or.inl ⟨by rfl, fun _ _ => by go_simp⟩) HS.out ?_
  try simp only [Act.put, List.setIfInBounds_toArray, List.set_cons_succ, List.set_cons_zero]
  refine wpAnyH_ready (rs := [6]) (by kernel_rfl) (by simp) ?_
  refine AllReadyH.cons (o := ⟨some 73, .call { callee := .value (.func 38), args := #[.tmp 71, .tmp 72], argTypes := #[28, 28] }, 4, _, _, some (3, true)⟩) rfl (fun K hK => ?_) AllReadyH.nil
  go_simp
  refine (equal_same _ _ _ _ _ _ _ v0 TM.out TN.out).mono ?_
  rintro e w' ⟨rfl, rfl⟩
  refine hK _ _ HS.out (fun _ => ?_)
  clear hK K
  try simp only [Act.put, List.setIfInBounds_toArray, List.set_cons_succ, List.set_cons_zero]
  refine wpAnyH_take (i := 7) (oi := ⟨some 74, .pick (.tmp 70) (.tmp 73) (.const (.bool false)), 4, _, _, none⟩) (v := .bool true) rfl (by kernel_rfl) (by kernel_rfl) (by kernel_rfl) (fun _ _ _ h => h) (Or.inl ⟨by rfl, fun _ _ => by go_simp⟩) HS.out ?_
  try simp only [Act.put, List.setIfInBounds_toArray, List.set_cons_succ, List.set_cons_zero]
  refine wpAnyH_take (i := 8) (oi := ⟨some 75, .move (.tmp 74), 4, _, _, none⟩) (v := .bool true) rfl (by kernel_rfl) (by kernel_rfl) (by kernel_rfl) (fun _ _ _ h => h) (Or.inl ⟨by rfl, fun _ _ => by go_simp⟩) HS.out ?_
  try simp only [Act.put, List.setIfInBounds_toArray, List.set_cons_succ, List.set_cons_zero]
  refine wpAnyH_take (i := 9) (oi := ⟨some 76, .move (.tmp 15), 28, _, _, some (8, true)⟩) (v := .slice ax nx cx) rfl (by kernel_rfl) (by kernel_rfl) (by kernel_rfl) (fun _ _ _ h => h) (Or.inl ⟨by rfl, fun _ _ => by go_simp⟩) HS.out ?_
  try simp only [Act.put, List.setIfInBounds_toArray, List.set_cons_succ, List.set_cons_zero]
  refine wpAnyH_take (i := 10) (oi := ⟨some 77, .move (.tmp 17), 28, _, _, some (8, true)⟩) (v := .slice ay ny cy) rfl (by kernel_rfl) (by kernel_rfl) (by kernel_rfl) (fun _ _ _ h => h) (Or.inl ⟨by rfl, fun _ _ => by go_simp⟩) HS.out ?_
  try simp only [Act.put, List.setIfInBounds_toArray, List.set_cons_succ, List.set_cons_zero]
  refine wpAnyH_ready (rs := [11]) (by kernel_rfl) (by simp) ?_
  refine AllReadyH.cons (o := ⟨some 78, .call { callee := .value (.func 38), args := #[.tmp 76, .tmp 77], argTypes := #[28, 28] }, 4, _, _, some (8, true)⟩) rfl (fun K hK => ?_) AllReadyH.nil
  go_simp
  refine (equal_same _ _ _ _ _ _ _ v0 TX.out TY.out).mono ?_
  rintro e w' ⟨rfl, rfl⟩
  refine hK _ _ HS.out (fun _ => ?_)
  clear hK K
  try simp only [Act.put, List.setIfInBounds_toArray, List.set_cons_succ, List.set_cons_zero]
  refine wpAnyH_take (i := 12) (oi := ⟨some 79, .pick (.tmp 75) (.tmp 78) (.const (.bool false)), 4, _, _, none⟩) (v := .bool true) rfl (by kernel_rfl) (by kernel_rfl) (by kernel_rfl) (fun _ _ _ h => h) (Or.inl ⟨by rfl, fun _ _ => by go_simp⟩) HS.out ?_
  try simp only [Act.put, List.setIfInBounds_toArray, List.set_cons_succ, List.set_cons_zero]
  refine wpAnyH_take (i := 13) (oi := ⟨some 80, .move (.tmp 79), 4, _, _, none⟩) (v := .bool true) rfl (by kernel_rfl) (by kernel_rfl) (by kernel_rfl) (fun _ _ _ h => h) (Or.inl ⟨by rfl, fun _ _ => by go_simp⟩) HS.out ?_
  try simp only [Act.put, List.setIfInBounds_toArray, List.set_cons_succ, List.set_cons_zero]
  refine wpAnyH_take (i := 14) (oi := ⟨some 81, .move (.tmp 16), 37, _, _, some (13, true)⟩) (v := .int .i64 er) rfl (by kernel_rfl) (by kernel_rfl) (by kernel_rfl) (fun _ _ _ h => h) (Or.inl ⟨by rfl, fun _ _ => by go_simp⟩) HS.out ?_
  try simp only [Act.put, List.setIfInBounds_toArray, List.set_cons_succ, List.set_cons_zero]
  refine wpAnyH_take (i := 15) (oi := ⟨some 82, .move (.tmp 18), 37, _, _, some (13, true)⟩) (v := .int .i64 er) rfl (by kernel_rfl) (by kernel_rfl) (by kernel_rfl) (fun _ _ _ h => h) (Or.inl ⟨by rfl, fun _ _ => by go_simp⟩) HS.out ?_
  try simp only [Act.put, List.setIfInBounds_toArray, List.set_cons_succ, List.set_cons_zero]
  refine wpAnyH_take (i := 16) (oi := ⟨some 83, .binOp .eql 37 (.tmp 81) (.tmp 82) 37, 4, _, _, some (13, true)⟩) (v := .bool true) rfl (by kernel_rfl) (by kernel_rfl) (by kernel_rfl) (fun _ _ _ h => h) (Or.inl ⟨by rfl, fun _ _ => by go_simp⟩) HS.out ?_
  try simp only [Act.put, List.setIfInBounds_toArray, List.set_cons_succ, List.set_cons_zero]
  refine wpAnyH_take (i := 17) (oi := ⟨some 84, .pick (.tmp 80) (.tmp 83) (.const (.bool false)), 4, _, _, none⟩) (v := .bool true) rfl (by kernel_rfl) (by kernel_rfl) (by kernel_rfl) (fun _ _ _ h => h) (Or.inl ⟨by rfl, fun _ _ => by go_simp⟩) HS.out ?_
  try simp only [Act.put, List.setIfInBounds_toArray, List.set_cons_succ, List.set_cons_zero]
  refine wpAnyH_take (i := 18) (oi := ⟨some 85, .move (.tmp 84), 4, _, _, none⟩) (v := .bool true) rfl (by kernel_rfl) (by kernel_rfl) (by kernel_rfl) (fun _ _ _ h => h) (Or.inl ⟨by rfl, fun _ _ => by go_simp⟩) HS.out ?_
  try simp only [Act.put, List.setIfInBounds_toArray, List.set_cons_succ, List.set_cons_zero]
  refine wpAnyH_take (i := 19) (oi := ⟨some 86, .slice 31 (.tmp 19) none none none, 28, _, _, some (18, true)⟩) (v := .slice (some ⟨g19, 0, none⟩) 32 32) rfl (by kernel_rfl) (by kernel_rfl) (by kernel_rfl) (fun _ _ _ h => h) (Or.inl ⟨by rfl, fun _ _ => by go_simp⟩) HS.out ?_
  try simp only [Act.put, List.setIfInBounds_toArray, List.set_cons_succ, List.set_cons_zero]
  refine wpAnyH_take (i := 20) (oi := ⟨some 87, .move (.tmp 3), 28, _, _, some (18, true)⟩) (v := .slice a n c) rfl (by kernel_rfl) (by kernel_rfl) (by kernel_rfl) (fun _ _ _ h => h) (Or.inl ⟨by rfl, fun _ _ => by go_simp⟩) HS.out ?_
  try simp only [Act.put, List.setIfInBounds_toArray, List.set_cons_succ, List.set_cons_zero]
  refine wpAnyH_take (i := 21) (oi := ⟨some 88, .slice 62 (.tmp 6) none none none, 28, _, _, some (18, true)⟩) (v := .slice (some ⟨w.heap.size + 1, 0, none⟩) 12 12) rfl (by kernel_rfl) (by kernel_rfl) (by kernel_rfl) (fun _ _ _ h => h) (Or.inl ⟨by rfl, fun _ _ => by go_simp⟩) HS.out ?_
  try simp only [Act.put, List.setIfInBounds_toArray, List.set_cons_succ, List.set_cons_zero]
  refine wpAnyH_take (i := 22) (oi := ⟨some 89, .move (.tmp 3), 28, _, _, some (18, true)⟩) (v := .slice a n c) rfl (by kernel_rfl) (by kernel_rfl) (by kernel_rfl) (fun _ _ _ h => h) (Or.inl ⟨by rfl, fun _ _ => by go_simp⟩) HS.out ?_
  try simp only [Act.put, List.setIfInBounds_toArray, List.set_cons_succ, List.set_cons_zero]
  refine wpAnyH_take (i := 23) (oi := ⟨some 90, .move (.tmp 4), 28, _, _, some (18, true)⟩) (v := .slice b m d) rfl (by kernel_rfl) (by kernel_rfl) (by kernel_rfl) (fun _ _ _ h => h) (Or.inl ⟨by rfl, fun _ _ => by go_simp⟩) HS.out ?_
  try simp only [Act.put, List.setIfInBounds_toArray, List.set_cons_succ, List.set_cons_zero]
  refine wpAnyH_ready (rs := [24]) (by kernel_rfl) (by simp) ?_
  refine AllReadyH.cons (o := ⟨some 91, .call { callee := .value (.func 57), args := #[.tmp 87, .tmp 88, .tmp 89, .tmp 90], argTypes := #[28, 28, 28, 28] }, 28, _, _, some (18, true)⟩) rfl (fun K hK => ?_) AllReadyH.nil
  go_simp
  refine (rtag_walk ad nonce ad text HNL.out _ _ _ _ _ _ _ _ _ _ _ _ v0 HA.out TNo.out HA.out HP.out (by have := HAL.out; omega) (by have := HAL.out; omega) (by have := HPL.out; omega)).mono ?_
  rintro e v4 ⟨at5, ct5, rfl, hT5, hb⟩
  have TE := Lib.hid (TE.out.on hb)
  have TF := Lib.hid (TF.out.on hb)
  have TM := Lib.hid (TM.out.on hb)
  have TN := Lib.hid (TN.out.on hb)
  have TX := Lib.hid (TX.out.on hb)
  have TY := Lib.hid (TY.out.on hb)
  have TG := Lib.hid (TG.out.on hb)
  have HA := Lib.hid (HA.out.on hb)
  have HP := Lib.hid (HP.out.on hb)
  have TNo := Lib.hid (TNo.out.on hb)
  have HS := Lib.hid (HS.out.trans (hb.mono HS.out.size))
  have TT := Lib.hid (hT5)
  clear hb hT5
  refine hK _ _ HS.out (fun _ => ?_)
  clear hK K
  try simp only [Act.put, List.setIfInBounds_toArray, List.set_cons_succ, List.set_cons_zero]
  refine wpAnyH_ready (rs := [25]) (by kernel_rfl) (by simp) ?_
  refine AllReadyH.cons (o := ⟨some 92, .call { callee := .value (.func 38), args := #[.tmp 86, .tmp 91], argTypes := #[28, 28] }, 4, _, _, some (18, true)⟩) rfl (fun K hK => ?_) AllReadyH.nil
  go_simp
  refine (equal_same _ _ _ _ _ _ _ v4 TG.out TT.out).mono ?_
  rintro e w' ⟨rfl, rfl⟩
  refine hK _ _ HS.out (fun _ => ?_)
  clear hK K
  try simp only [Act.put, List.setIfInBounds_toArray, List.set_cons_succ, List.set_cons_zero]
  refine wpAnyH_take (i := 26) (oi := ⟨some 93, .pick (.tmp 85) (.tmp 92) (.const (.bool false)), 4, _, _, none⟩) (v := .bool true) rfl (by kernel_rfl) (by kernel_rfl) (by kernel_rfl) (fun _ _ _ h => h) (Or.inl ⟨by rfl, fun _ _ => by go_simp⟩) HS.out ?_
  try simp only [Act.put, List.setIfInBounds_toArray, List.set_cons_succ, List.set_cons_zero]
  refine wpAnyH_take (i := 27) (oi := ⟨some 10, .assign (.tmp 93), 4, _, _, none⟩) (v := .bool true) rfl (by kernel_rfl) (by kernel_rfl) (by kernel_rfl) (fun _ _ _ h => h) (Or.inl ⟨by rfl, fun _ _ => by go_simp⟩) HS.out ?_
  try simp only [Act.put, List.setIfInBounds_toArray, List.set_cons_succ, List.set_cons_zero]
  refine wpAnyH_done (by kernel_rfl) ?_ _
  go_wp2
  go_ret
  exact ⟨rfl, HBX.out.trans (HS.out.mono HBX.out.size)⟩
set_option maxRecDepth 100000 in
set_option maxHeartbeats 4000000 in
theorem sealkeys_in (key nonce ad text : List UInt8) (hk : key.length = 32) (hnon : nonce.length = 12) (a b : Option Addr) (n c m d : Nat) (i : Int) (w : World) (hA : Txt w a n c ad) (hX : Txt w b m d text) (hT : Two w) (hfew : fewOf 2000 [ad, text] = true) (h5 : i ≤ 5000) :
    Calls Tryd.prog 16 #[.agg (barr key), .agg (barr nonce), .int .i64 i, .slice a n c, .slice b m d] w fun e w' => e = .returned (.bool true) ∧ Below w.heap.size w w' := by
  have bx := Boxed.new w key nonce
  have HX0 := Lib.hid bx
  have HA0 := Lib.hid (hA.on bx.b)
  have HP0 := Lib.hid (hX.on bx.b)
  have HT0 := Lib.hid (hT.on bx.b)
  have HTw := Lib.hid hT
  have HS1 := Lib.hid (show (Tryd.prog.info? 31).map (·.size) = some (barr key).size by rw [barr_size, hk]; exact size_u8x32)
  have HS2 := Lib.hid (show (Tryd.prog.info? 62).map (·.size) = some (barr nonce).size by rw [barr_size, hnon]; exact size_u8x12)
  have HKL := Lib.hid hk
  have HNL := Lib.hid hnon
  have HF := Lib.hid hfew
  have HAL := Lib.hid (few4_2 hfew).1
  have HPL := Lib.hid (few4_2 hfew).2
  have hi : i ≤ 5000 ∨ 1048576 < i := .inl h5
  clear bx hA hX hT hk hnon hfew
  go_enter Tryd.func16, Tryd.ntmps16
  go_wp2_with fail
  refine (live4_walk _ HT0.out).mono ?_
  rintro e w1 ⟨rfl, hb⟩
  have HX1 := Lib.hid (HX0.out.on hb)
  have HA1 := Lib.hid (HA0.out.on hb)
  have HP1 := Lib.hid (HP0.out.on hb)
  have HT1 := Lib.hid (HT0.out.on hb)
  clear hb HX0 HA0 HP0 HT0
  go_wp2_with fail
  refine (few4_two w1 28 _ rfl HA1.out HP1.out true HF.out).mono ?_
  rintro e w2 ⟨rfl, hw2⟩
  have hb : Below w1.heap.size w1 w2 := by rw [hw2]; exact below_one' w1 _
  clear hw2
  have HX2 := Lib.hid (HX1.out.on hb)
  have HA2 := Lib.hid (HA1.out.on hb)
  have HP2 := Lib.hid (HP1.out.on hb)
  have HT2 := Lib.hid (HT1.out.on hb)
  clear hb HX1 HA1 HP1 HT1
  go_wp2_with (first | (refine wpList_load_row rfl 31 (.tmp 5) rfl w.heap.size rfl 31 _ _ _ HX2.out.k Tryd.underlying31 rfl HS1.out ?_) | (refine wpList_load_row rfl 62 (.tmp 6) rfl (w.heap.size + 1) rfl 62 _ _ _ HX2.out.n Tryd.underlying62 rfl HS2.out ?_))
  refine (keys_walk key HKL.out _ HT2.out).mono ?_
  rintro e w3 ⟨a1, c1, a2, c2, rfl, hE, hM, hb⟩
  have HX3 := Lib.hid (HX2.out.on hb)
  have HA3 := Lib.hid (HA2.out.on hb)
  have HP3 := Lib.hid (HP2.out.on hb)
  have HT3 := Lib.hid (HT2.out.on hb)
  clear hb HX2 HA2 HP2 HT2
  have TE3 := Lib.hid hE
  have TM3 := Lib.hid hM
  clear hE hM
  have HKT := Lib.hid (out32 HX3.out.k HKL.out (Below.refl _ _))
  go_wp2_with fail
  refine (rkeys_walk key HKL.out _ _ _ _ HKT.out).mono ?_
  rintro e w4 ⟨a3, c3, a4, c4, rfl, hE, hM, hb⟩
  clear HKT
  have HX4 := Lib.hid (HX3.out.on hb)
  have HA4 := Lib.hid (HA3.out.on hb)
  have HP4 := Lib.hid (HP3.out.on hb)
  have HT4 := Lib.hid (HT3.out.on hb)
  have TE4 := Lib.hid (TE3.out.on hb)
  have TM4 := Lib.hid (TM3.out.on hb)
  clear hb HX3 HA3 HP3 HT3 TE3 TM3
  have TF4 := Lib.hid hE
  have TN4 := Lib.hid hM
  clear hE hM
  go_wp2_with (first | (refine wpList_load_row rfl 31 (.tmp 5) rfl w.heap.size rfl 31 _ _ _ HX4.out.k Tryd.underlying31 rfl HS1.out ?_) | (refine wpList_load_row rfl 62 (.tmp 6) rfl (w.heap.size + 1) rfl 62 _ _ _ HX4.out.n Tryd.underlying62 rfl HS2.out ?_))
  refine (askstream_any ad nonce HNL.out a n c i hi _ HA4.out HT4.out (by have := HAL.out; omega)).mono ?_
  rintro e w5 ⟨ax, nx, cx, rfl, hx, hb⟩
  have HX5 := Lib.hid (HX4.out.on hb)
  have HA5 := Lib.hid (HA4.out.on hb)
  have HP5 := Lib.hid (HP4.out.on hb)
  have HT5 := Lib.hid (HT4.out.on hb)
  have TE5 := Lib.hid (TE4.out.on hb)
  have TM5 := Lib.hid (TM4.out.on hb)
  have TF5 := Lib.hid (TF4.out.on hb)
  have TN5 := Lib.hid (TN4.out.on hb)
  clear hb HX4 HA4 HP4 HT4 TE4 TM4 TF4 TN4
  have TX5 := Lib.hid hx
  clear hx
  have TNo := Lib.hid (by have h := Txt.of_blk HX5.out.n; rw [HNL.out] at h; exact h)
  go_wp2_with fail
  refine (rask_any ad nonce HNL.out a _ n c 12 12 i hi _ HA5.out TNo.out (by have := HAL.out; omega)).mono ?_
  rintro e w6 ⟨ay, ny, cy, rfl, hy, hb⟩
  clear TNo
  have HX6 := Lib.hid (HX5.out.on hb)
  have HA6 := Lib.hid (HA5.out.on hb)
  have HP6 := Lib.hid (HP5.out.on hb)
  have HT6 := Lib.hid (HT5.out.on hb)
  have TE6 := Lib.hid (TE5.out.on hb)
  have TM6 := Lib.hid (TM5.out.on hb)
  have TF6 := Lib.hid (TF5.out.on hb)
  have TN6 := Lib.hid (TN5.out.on hb)
  have TX6 := Lib.hid (TX5.out.on hb)
  clear hb HX5 HA5 HP5 HT5 TE5 TM5 TF5 TN5 TX5
  have TY6 := Lib.hid hy
  clear hy
  go_wp2_with (first | (refine wpList_load_row rfl 31 (.tmp 5) rfl w.heap.size rfl 31 _ _ _ HX6.out.k Tryd.underlying31 rfl HS1.out ?_) | (refine wpList_load_row rfl 62 (.tmp 6) rfl (w.heap.size + 1) rfl 62 _ _ _ HX6.out.n Tryd.underlying62 rfl HS2.out ?_))
  refine (tag_walk ad nonce ad text HNL.out a a b n c n c m d _ HA6.out HA6.out HP6.out HT6.out (by have := HAL.out; omega) (by have := HAL.out; omega) (by have := HPL.out; omega)).mono ?_
  rintro e w7 ⟨he, hb⟩
  obtain ⟨V, hV⟩ : ∃ V, V = tagL ad nonce ad text := ⟨_, rfl⟩
  rw [← hV] at he
  subst he
  have HVL := Lib.hid (show V.length = 32 by rw [hV, tagL_len])
  have HVE := Lib.hid hV
  clear hV
  have HX7 := Lib.hid (HX6.out.on hb)
  have HA7 := Lib.hid (HA6.out.on hb)
  have HP7 := Lib.hid (HP6.out.on hb)
  have HT7 := Lib.hid (HT6.out.on hb)
  have TE7 := Lib.hid (TE6.out.on hb)
  have TM7 := Lib.hid (TM6.out.on hb)
  have TF7 := Lib.hid (TF6.out.on hb)
  have TN7 := Lib.hid (TN6.out.on hb)
  have TX7 := Lib.hid (TX6.out.on hb)
  have TY7 := Lib.hid (TY6.out.on hb)
  clear hb HX6 HA6 HP6 HT6 TE6 TM6 TF6 TN6 TX6 TY6
  go_wp2_with (refine wpList_store_abs rfl 31 (.tmp 19) (.tmp 66) rfl w7.heap.size (barr V) (by rfl) (by rfl) 31 _ (Blk.new w7 _ _) (by rw [barr_size, HVL.out]; exact size_u8x32) (by rw [barr_size, HVL.out]; rfl) (barr_one_all _) ?_; intro W9 hW9 p9; have hb := hW9.below (below_one' w7 _) (Nat.le_refl _); have TG := Lib.hid (by have h := out32 p9 HVL.out (Below.refl _ _); rw [HVE.out] at h; exact h); have HA := Lib.hid (HA7.out.on hb); have HP := Lib.hid (HP7.out.on hb); have TE := Lib.hid (TE7.out.on hb); have TM := Lib.hid (TM7.out.on hb); have TF := Lib.hid (TF7.out.on hb); have TN := Lib.hid (TN7.out.on hb); have TX := Lib.hid (TX7.out.on hb); have TY := Lib.hid (TY7.out.on hb); have TNo := Lib.hid (by have h := Txt.of_blk (HX7.out.n.on hb); rw [HNL.out] at h; exact h); have HBX := Lib.hid (HX7.out.on hb).b; clear hW9 p9 hb)
  obtain ⟨g19, hg19⟩ : ∃ g, g = w7.heap.size := ⟨_, rfl⟩
  rw [← hg19] at TG
  simp only [← hg19]
  clear hg19 HX7 HA7 HP7 HT7 TE7 TM7 TF7 TN7 TX7 TY7
  obtain ⟨er, her⟩ : ∃ z, z = errA i := ⟨_, rfl⟩
  simp only [← her]
  clear her
  refine wp_region_held_drew (S := fun w' => Below W9.heap.size W9 w') (by kernel_rfl) (Below.refl _ _).drew (fun _ => ?_)
  have HS := Lib.hid ((Below.refl W9.heap.size W9).drew)
  have TE := Lib.hid (TE.out.on (HS.out))
  have TF := Lib.hid (TF.out.on (HS.out))
  have TM := Lib.hid (TM.out.on (HS.out))
  have TN := Lib.hid (TN.out.on (HS.out))
  have TX := Lib.hid (TX.out.on (HS.out))
  have TY := Lib.hid (TY.out.on (HS.out))
  have TG := Lib.hid (TG.out.on (HS.out))
  have HA := Lib.hid (HA.out.on (HS.out))
  have HP := Lib.hid (HP.out.on (HS.out))
  have TNo := Lib.hid (TNo.out.on (HS.out))
  generalize World.drew W9 = v0 at *
  try simp only [Act.put, List.setIfInBounds_toArray, List.set_cons_succ, List.set_cons_zero]
  refine wpAnyH_take (i := 0) (oi := ⟨some 67, .move (.tmp 11), 28, _, _, none⟩) (v := .slice a1 32 c1) rfl (by kernel_rfl) (by kernel_rfl) (by kernel_rfl) (fun _ _ _ h => h) (Or.inl ⟨by rfl, fun _ _ => by go_simp⟩) HS.out ?_
  try simp only [Act.put, List.setIfInBounds_toArray, List.set_cons_succ, List.set_cons_zero]
  refine wpAnyH_take (i := 1) (oi := ⟨some 68, .move (.tmp 13), 28, _, _, none⟩) (v := .slice a3 32 c3) rfl (by kernel_rfl) (by kernel_rfl) (by kernel_rfl) (fun _ _ _ h => h) (Or.inl ⟨by rfl, fun _ _ => by go_simp⟩) HS.out ?_
  try simp only [Act.put, List.setIfInBounds_toArray, List.set_cons_succ, List.set_cons_zero]
  refine wpAnyH_ready (rs := [2]) (by kernel_rfl) (by simp) ?_
  refine AllReadyH.cons (o := ⟨some 69, .call { callee := .value (.func 38), args := #[.tmp 67, .tmp 68], argTypes := #[28, 28] }, 4, _, _, none⟩) rfl (fun K hK => ?_) AllReadyH.nil
  go_simp
  refine (equal_same _ _ _ _ _ _ _ v0 TE.out TF.out).mono ?_
  rintro e w' ⟨rfl, rfl⟩
  refine hK _ _ HS.out (fun _ => ?_)
  clear hK K
  try simp only [Act.put, List.setIfInBounds_toArray, List.set_cons_succ, List.set_cons_zero]
  refine wpAnyH_take (i := 3) (oi := ⟨some 70, .move (.tmp 69), 4, _, _, none⟩) (v := .bool true) rfl (by kernel_rfl) (by kernel_rfl) (by kernel_rfl) (fun _ _ _ h => h) (Or.inl ⟨by rfl, fun _ _ => by go_simp⟩) HS.out ?_
  try simp only [Act.put, List.setIfInBounds_toArray, List.set_cons_succ, List.set_cons_zero]
  refine wpAnyH_take (i := 4) (oi := ⟨some 71, .move (.tmp 12), 28, _, _, some (3, true)⟩) (v := .slice a2 32 c2) rfl (by kernel_rfl) (by kernel_rfl) (by kernel_rfl) (fun _ _ _ h => h) (Or.inl ⟨by rfl, fun _ _ => by go_simp⟩) HS.out ?_
  try simp only [Act.put, List.setIfInBounds_toArray, List.set_cons_succ, List.set_cons_zero]
  refine wpAnyH_take (i := 5) (oi := ⟨some 72, .move (.tmp 14), 28, _, _, some (3, true)⟩) (v := .slice a4 32 c4) rfl (by kernel_rfl) (by kernel_rfl) (by kernel_rfl) (fun _ _ _ h => h) (Or.inl ⟨by rfl, fun _ _ => by go_simp⟩) HS.out ?_
  try simp only [Act.put, List.setIfInBounds_toArray, List.set_cons_succ, List.set_cons_zero]
  refine wpAnyH_ready (rs := [6]) (by kernel_rfl) (by simp) ?_
  refine AllReadyH.cons (o := ⟨some 73, .call { callee := .value (.func 38), args := #[.tmp 71, .tmp 72], argTypes := #[28, 28] }, 4, _, _, some (3, true)⟩) rfl (fun K hK => ?_) AllReadyH.nil
  go_simp
  refine (equal_same _ _ _ _ _ _ _ v0 TM.out TN.out).mono ?_
  rintro e w' ⟨rfl, rfl⟩
  refine hK _ _ HS.out (fun _ => ?_)
  clear hK K
  try simp only [Act.put, List.setIfInBounds_toArray, List.set_cons_succ, List.set_cons_zero]
  refine wpAnyH_take (i := 7) (oi := ⟨some 74, .pick (.tmp 70) (.tmp 73) (.const (.bool false)), 4, _, _, none⟩) (v := .bool true) rfl (by kernel_rfl) (by kernel_rfl) (by kernel_rfl) (fun _ _ _ h => h) (Or.inl ⟨by rfl, fun _ _ => by go_simp⟩) HS.out ?_
  try simp only [Act.put, List.setIfInBounds_toArray, List.set_cons_succ, List.set_cons_zero]
  refine wpAnyH_take (i := 8) (oi := ⟨some 75, .move (.tmp 74), 4, _, _, none⟩) (v := .bool true) rfl (by kernel_rfl) (by kernel_rfl) (by kernel_rfl) (fun _ _ _ h => h) (Or.inl ⟨by rfl, fun _ _ => by go_simp⟩) HS.out ?_
  try simp only [Act.put, List.setIfInBounds_toArray, List.set_cons_succ, List.set_cons_zero]
  refine wpAnyH_take (i := 9) (oi := ⟨some 76, .move (.tmp 15), 28, _, _, some (8, true)⟩) (v := .slice ax nx cx) rfl (by kernel_rfl) (by kernel_rfl) (by kernel_rfl) (fun _ _ _ h => h) (Or.inl ⟨by rfl, fun _ _ => by go_simp⟩) HS.out ?_
  try simp only [Act.put, List.setIfInBounds_toArray, List.set_cons_succ, List.set_cons_zero]
  refine wpAnyH_take (i := 10) (oi := ⟨some 77, .move (.tmp 17), 28, _, _, some (8, true)⟩) (v := .slice ay ny cy) rfl (by kernel_rfl) (by kernel_rfl) (by kernel_rfl) (fun _ _ _ h => h) (Or.inl ⟨by rfl, fun _ _ => by go_simp⟩) HS.out ?_
  try simp only [Act.put, List.setIfInBounds_toArray, List.set_cons_succ, List.set_cons_zero]
  refine wpAnyH_ready (rs := [11]) (by kernel_rfl) (by simp) ?_
  refine AllReadyH.cons (o := ⟨some 78, .call { callee := .value (.func 38), args := #[.tmp 76, .tmp 77], argTypes := #[28, 28] }, 4, _, _, some (8, true)⟩) rfl (fun K hK => ?_) AllReadyH.nil
  go_simp
  refine (equal_same _ _ _ _ _ _ _ v0 TX.out TY.out).mono ?_
  rintro e w' ⟨rfl, rfl⟩
  refine hK _ _ HS.out (fun _ => ?_)
  clear hK K
  try simp only [Act.put, List.setIfInBounds_toArray, List.set_cons_succ, List.set_cons_zero]
  refine wpAnyH_take (i := 12) (oi := ⟨some 79, .pick (.tmp 75) (.tmp 78) (.const (.bool false)), 4, _, _, none⟩) (v := .bool true) rfl (by kernel_rfl) (by kernel_rfl) (by kernel_rfl) (fun _ _ _ h => h) (Or.inl ⟨by rfl, fun _ _ => by go_simp⟩) HS.out ?_
  try simp only [Act.put, List.setIfInBounds_toArray, List.set_cons_succ, List.set_cons_zero]
  refine wpAnyH_take (i := 13) (oi := ⟨some 80, .move (.tmp 79), 4, _, _, none⟩) (v := .bool true) rfl (by kernel_rfl) (by kernel_rfl) (by kernel_rfl) (fun _ _ _ h => h) (Or.inl ⟨by rfl, fun _ _ => by go_simp⟩) HS.out ?_
  try simp only [Act.put, List.setIfInBounds_toArray, List.set_cons_succ, List.set_cons_zero]
  refine wpAnyH_take (i := 14) (oi := ⟨some 81, .move (.tmp 16), 37, _, _, some (13, true)⟩) (v := .int .i64 er) rfl (by kernel_rfl) (by kernel_rfl) (by kernel_rfl) (fun _ _ _ h => h) (Or.inl ⟨by rfl, fun _ _ => by go_simp⟩) HS.out ?_
  try simp only [Act.put, List.setIfInBounds_toArray, List.set_cons_succ, List.set_cons_zero]
  refine wpAnyH_take (i := 15) (oi := ⟨some 82, .move (.tmp 18), 37, _, _, some (13, true)⟩) (v := .int .i64 er) rfl (by kernel_rfl) (by kernel_rfl) (by kernel_rfl) (fun _ _ _ h => h) (Or.inl ⟨by rfl, fun _ _ => by go_simp⟩) HS.out ?_
  try simp only [Act.put, List.setIfInBounds_toArray, List.set_cons_succ, List.set_cons_zero]
  refine wpAnyH_take (i := 16) (oi := ⟨some 83, .binOp .eql 37 (.tmp 81) (.tmp 82) 37, 4, _, _, some (13, true)⟩) (v := .bool true) rfl (by kernel_rfl) (by kernel_rfl) (by kernel_rfl) (fun _ _ _ h => h) (Or.inl ⟨by rfl, fun _ _ => by go_simp⟩) HS.out ?_
  try simp only [Act.put, List.setIfInBounds_toArray, List.set_cons_succ, List.set_cons_zero]
  refine wpAnyH_take (i := 17) (oi := ⟨some 84, .pick (.tmp 80) (.tmp 83) (.const (.bool false)), 4, _, _, none⟩) (v := .bool true) rfl (by kernel_rfl) (by kernel_rfl) (by kernel_rfl) (fun _ _ _ h => h) (Or.inl ⟨by rfl, fun _ _ => by go_simp⟩) HS.out ?_
  try simp only [Act.put, List.setIfInBounds_toArray, List.set_cons_succ, List.set_cons_zero]
  refine wpAnyH_take (i := 18) (oi := ⟨some 85, .move (.tmp 84), 4, _, _, none⟩) (v := .bool true) rfl (by kernel_rfl) (by kernel_rfl) (by kernel_rfl) (fun _ _ _ h => h) (Or.inl ⟨by rfl, fun _ _ => by go_simp⟩) HS.out ?_
  try simp only [Act.put, List.setIfInBounds_toArray, List.set_cons_succ, List.set_cons_zero]
  refine wpAnyH_take (i := 19) (oi := ⟨some 86, .slice 31 (.tmp 19) none none none, 28, _, _, some (18, true)⟩) (v := .slice (some ⟨g19, 0, none⟩) 32 32) rfl (by kernel_rfl) (by kernel_rfl) (by kernel_rfl) (fun _ _ _ h => h) (Or.inl ⟨by rfl, fun _ _ => by go_simp⟩) HS.out ?_
  try simp only [Act.put, List.setIfInBounds_toArray, List.set_cons_succ, List.set_cons_zero]
  refine wpAnyH_take (i := 20) (oi := ⟨some 87, .move (.tmp 3), 28, _, _, some (18, true)⟩) (v := .slice a n c) rfl (by kernel_rfl) (by kernel_rfl) (by kernel_rfl) (fun _ _ _ h => h) (Or.inl ⟨by rfl, fun _ _ => by go_simp⟩) HS.out ?_
  try simp only [Act.put, List.setIfInBounds_toArray, List.set_cons_succ, List.set_cons_zero]
  refine wpAnyH_take (i := 21) (oi := ⟨some 88, .slice 62 (.tmp 6) none none none, 28, _, _, some (18, true)⟩) (v := .slice (some ⟨w.heap.size + 1, 0, none⟩) 12 12) rfl (by kernel_rfl) (by kernel_rfl) (by kernel_rfl) (fun _ _ _ h => h) (Or.inl ⟨by rfl, fun _ _ => by go_simp⟩) HS.out ?_
  try simp only [Act.put, List.setIfInBounds_toArray, List.set_cons_succ, List.set_cons_zero]
  refine wpAnyH_take (i := 22) (oi := ⟨some 89, .move (.tmp 3), 28, _, _, some (18, true)⟩) (v := .slice a n c) rfl (by kernel_rfl) (by kernel_rfl) (by kernel_rfl) (fun _ _ _ h => h) (Or.inl ⟨by rfl, fun _ _ => by go_simp⟩) HS.out ?_
  try simp only [Act.put, List.setIfInBounds_toArray, List.set_cons_succ, List.set_cons_zero]
  refine wpAnyH_take (i := 23) (oi := ⟨some 90, .move (.tmp 4), 28, _, _, some (18, true)⟩) (v := .slice b m d) rfl (by kernel_rfl) (by kernel_rfl) (by kernel_rfl) (fun _ _ _ h => h) (Or.inl ⟨by rfl, fun _ _ => by go_simp⟩) HS.out ?_
  try simp only [Act.put, List.setIfInBounds_toArray, List.set_cons_succ, List.set_cons_zero]
  refine wpAnyH_ready (rs := [24]) (by kernel_rfl) (by simp) ?_
  refine AllReadyH.cons (o := ⟨some 91, .call { callee := .value (.func 57), args := #[.tmp 87, .tmp 88, .tmp 89, .tmp 90], argTypes := #[28, 28, 28, 28] }, 28, _, _, some (18, true)⟩) rfl (fun K hK => ?_) AllReadyH.nil
  go_simp
  refine (rtag_walk ad nonce ad text HNL.out _ _ _ _ _ _ _ _ _ _ _ _ v0 HA.out TNo.out HA.out HP.out (by have := HAL.out; omega) (by have := HAL.out; omega) (by have := HPL.out; omega)).mono ?_
  rintro e v4 ⟨at5, ct5, rfl, hT5, hb⟩
  have TE := Lib.hid (TE.out.on hb)
  have TF := Lib.hid (TF.out.on hb)
  have TM := Lib.hid (TM.out.on hb)
  have TN := Lib.hid (TN.out.on hb)
  have TX := Lib.hid (TX.out.on hb)
  have TY := Lib.hid (TY.out.on hb)
  have TG := Lib.hid (TG.out.on hb)
  have HA := Lib.hid (HA.out.on hb)
  have HP := Lib.hid (HP.out.on hb)
  have TNo := Lib.hid (TNo.out.on hb)
  have HS := Lib.hid (HS.out.trans (hb.mono HS.out.size))
  have TT := Lib.hid (hT5)
  clear hb hT5
  refine hK _ _ HS.out (fun _ => ?_)
  clear hK K
  try simp only [Act.put, List.setIfInBounds_toArray, List.set_cons_succ, List.set_cons_zero]
  refine wpAnyH_ready (rs := [25]) (by kernel_rfl) (by simp) ?_
  refine AllReadyH.cons (o := ⟨some 92, .call { callee := .value (.func 38), args := #[.tmp 86, .tmp 91], argTypes := #[28, 28] }, 4, _, _, some (18, true)⟩) rfl (fun K hK => ?_) AllReadyH.nil
  go_simp
  refine (equal_same _ _ _ _ _ _ _ v4 TG.out TT.out).mono ?_
  rintro e w' ⟨rfl, rfl⟩
  refine hK _ _ HS.out (fun _ => ?_)
  clear hK K
  try simp only [Act.put, List.setIfInBounds_toArray, List.set_cons_succ, List.set_cons_zero]
  refine wpAnyH_take (i := 26) (oi := ⟨some 93, .pick (.tmp 85) (.tmp 92) (.const (.bool false)), 4, _, _, none⟩) (v := .bool true) rfl (by kernel_rfl) (by kernel_rfl) (by kernel_rfl) (fun _ _ _ h => h) (Or.inl ⟨by rfl, fun _ _ => by go_simp⟩) HS.out ?_
  try simp only [Act.put, List.setIfInBounds_toArray, List.set_cons_succ, List.set_cons_zero]
  refine wpAnyH_take (i := 27) (oi := ⟨some 10, .assign (.tmp 93), 4, _, _, none⟩) (v := .bool true) rfl (by kernel_rfl) (by kernel_rfl) (by kernel_rfl) (fun _ _ _ h => h) (Or.inl ⟨by rfl, fun _ _ => by go_simp⟩) HS.out ?_
  try simp only [Act.put, List.setIfInBounds_toArray, List.set_cons_succ, List.set_cons_zero]
  refine wpAnyH_done (by kernel_rfl) ?_ _
  go_wp2
  go_ret
  exact ⟨rfl, HBX.out.trans (HS.out.mono HBX.out.size)⟩
set_option maxRecDepth 100000 in
set_option maxHeartbeats 4000000 in
theorem sealkeys_mid (key nonce ad text : List UInt8) (hk : key.length = 32) (hnon : nonce.length = 12) (a b : Option Addr) (n c m d : Nat) (i : Int) (w : World) (hA : Txt w a n c ad) (hX : Txt w b m d text) (hT : Two w) (hfew : fewOf 2000 [ad, text] = true) (h5 : 5000 < i) (h6 : i ≤ 1048576) :
    Calls Tryd.prog 16 #[.agg (barr key), .agg (barr nonce), .int .i64 i, .slice a n c, .slice b m d] w fun e w' => e = .returned (.bool true) ∧ Below w.heap.size w w' := by
  have bx := Boxed.new w key nonce
  have HX0 := Lib.hid bx
  have HA0 := Lib.hid (hA.on bx.b)
  have HP0 := Lib.hid (hX.on bx.b)
  have HT0 := Lib.hid (hT.on bx.b)
  have HTw := Lib.hid hT
  have HS1 := Lib.hid (show (Tryd.prog.info? 31).map (·.size) = some (barr key).size by rw [barr_size, hk]; exact size_u8x32)
  have HS2 := Lib.hid (show (Tryd.prog.info? 62).map (·.size) = some (barr nonce).size by rw [barr_size, hnon]; exact size_u8x12)
  have HKL := Lib.hid hk
  have HNL := Lib.hid hnon
  have HF := Lib.hid hfew

  clear bx hA hX hT hk hnon hfew
  go_enter Tryd.func16, Tryd.ntmps16
  go_wp2_with fail
  refine (live4_walk _ HT0.out).mono ?_
  rintro e w1 ⟨rfl, hb1⟩
  have HA1 := Lib.hid (HA0.out.on hb1)
  have HP1 := Lib.hid (HP0.out.on hb1)
  have HB1 := Lib.hid (HX0.out.on hb1).b
  clear hb1
  go_wp2_with fail
  refine (few4_two w1 28 _ rfl HA1.out HP1.out true HF.out).mono ?_
  rintro e w2 ⟨rfl, hw2⟩
  have HB2 := Lib.hid (show Below w.heap.size w w2 by rw [hw2]; exact HB1.out.trans ((below_one' w1 _).mono HB1.out.size))
  clear hw2
  go_wp2_with fail
  refine (live4_again HTw.out HB2.out).mono ?_
  rintro e w3 ⟨rfl, hb3⟩
  go_wp2
  go_ret
  exact ⟨rfl, hb3⟩
set_option maxRecDepth 100000 in
set_option maxHeartbeats 4000000 in
theorem sealkeys_out (key nonce ad text : List UInt8) (hk : key.length = 32) (hnon : nonce.length = 12) (a b : Option Addr) (n c m d : Nat) (i : Int) (w : World) (hA : Txt w a n c ad) (hX : Txt w b m d text) (hT : Two w) (hfew : fewOf 2000 [ad, text] = false) :
    Calls Tryd.prog 16 #[.agg (barr key), .agg (barr nonce), .int .i64 i, .slice a n c, .slice b m d] w fun e w' => e = .returned (.bool true) ∧ Below w.heap.size w w' := by
  have bx := Boxed.new w key nonce
  have HX0 := Lib.hid bx
  have HA0 := Lib.hid (hA.on bx.b)
  have HP0 := Lib.hid (hX.on bx.b)
  have HT0 := Lib.hid (hT.on bx.b)
  have HTw := Lib.hid hT
  have HS1 := Lib.hid (show (Tryd.prog.info? 31).map (·.size) = some (barr key).size by rw [barr_size, hk]; exact size_u8x32)
  have HS2 := Lib.hid (show (Tryd.prog.info? 62).map (·.size) = some (barr nonce).size by rw [barr_size, hnon]; exact size_u8x12)
  have HKL := Lib.hid hk
  have HNL := Lib.hid hnon
  have HF := Lib.hid hfew

  clear bx hA hX hT hk hnon hfew
  go_enter Tryd.func16, Tryd.ntmps16
  go_wp2_with fail
  refine (live4_walk _ HT0.out).mono ?_
  rintro e w1 ⟨rfl, hb1⟩
  have HA1 := Lib.hid (HA0.out.on hb1)
  have HP1 := Lib.hid (HP0.out.on hb1)
  have HB1 := Lib.hid (HX0.out.on hb1).b
  clear hb1
  go_wp2_with fail
  refine (few4_two w1 28 _ rfl HA1.out HP1.out false HF.out).mono ?_
  rintro e w2 ⟨rfl, hw2⟩
  have HB2 := Lib.hid (show Below w.heap.size w w2 by rw [hw2]; exact HB1.out.trans ((below_one' w1 _).mono HB1.out.size))
  clear hw2
  go_wp2_with fail
  refine (live4_again HTw.out HB2.out).mono ?_
  rintro e w3 ⟨rfl, hb3⟩
  go_wp2
  go_ret
  exact ⟨rfl, hb3⟩
theorem sealkeys_walk (key nonce ad text : List UInt8) (hk : key.length = 32) (hnon : nonce.length = 12) (a b : Option Addr) (n c m d : Nat) (i : Int) (w : World) (hA : Txt w a n c ad) (hX : Txt w b m d text) (hT : Two w) :
    Calls Tryd.prog 16 #[.agg (barr key), .agg (barr nonce), .int .i64 i, .slice a n c, .slice b m d] w fun e w' => e = .returned (.bool true) ∧ Below w.heap.size w w' := by
  by_cases hfew : fewOf 2000 [ad, text] = true
  · by_cases h5 : 5000 < i
    · by_cases h6 : 1048576 < i
      · exact sealkeys_long key nonce ad text hk hnon a b n c m d i w hA hX hT hfew h5 h6
      · exact sealkeys_mid key nonce ad text hk hnon a b n c m d i w hA hX hT hfew h5 (by omega)
    · exact sealkeys_in key nonce ad text hk hnon a b n c m d i w hA hX hT hfew (by omega)
  · exact sealkeys_out key nonce ad text hk hnon a b n c m d i w hA hX hT (by simpa using hfew)
end Go.Proofs.YtgbahfggnbpnmaaDoor
