import Derived.Test.YtgbahfggnbpnmaaDoorROpen
import Derived.Test.YtgbahfggnbpnmaaDoorLawSealBack
/-
  The walk of liverylaw04.SealBits.
-/
namespace Go.Proofs.YtgbahfggnbpnmaaDoor
open Go.RowKit
theorem seal_cut (key nonce ad t : List UInt8) (k : Nat) (h : k ≤ t.length) : (sealL key nonce ad t).take k = xorL (streamL (encK key) nonce k) (t.take k) := by
  unfold sealL
  rw [List.take_append_of_le_length (by rw [coverL_len]; exact h)]
  unfold coverL xorL
  rw [List.take_zipWith, streamL_pre _ _ _ _ h]
theorem xor_cancel (S a b : List UInt8) (ha : S.length = a.length) (hb : S.length = b.length) : xorL (xorL S a) (xorL S b) = xorL a b := by
  induction S generalizing a b with
  | nil =>
    have : a = [] := List.eq_nil_of_length_eq_zero (by simpa using ha.symm)
    subst this; rfl
  | cons s S ih =>
    cases a with
    | nil => simp at ha
    | cons x a =>
      cases b with
      | nil => simp at hb
      | cons y b =>
        have h := ih a b (by simpa using ha) (by simpa using hb)
        simp only [xorL, List.zipWith_cons_cons] at *
        rw [h]
        congr 1
        rw [UInt8.xor_comm s x, UInt8.xor_assoc, ← UInt8.xor_assoc s s y, UInt8.xor_self, UInt8.zero_xor]
set_option maxRecDepth 100000 in
set_option maxHeartbeats 4000000 in
theorem sealbits_le (key nonce ad ta tb : List UInt8) (hk : key.length = 32) (hnon : nonce.length = 12) (a b g : Option Addr) (n c m d p q : Nat) (w : World) (hA : Txt w a n c ad) (hX : Txt w b m d ta) (hG : Txt w g p q tb) (hT : Two w) (hfew : fewOf 2000 [ad, ta, tb] = true) (hle : m ≤ p) :
    Calls Tryd.prog 15 #[.agg (barr key), .agg (barr nonce), .slice a n c, .slice b m d, .slice g p q] w fun e w' => e = .returned (.bool true) ∧ Below w.heap.size w w' := by
  have bx := Boxed.new w key nonce
  have HX0 := Lib.hid bx
  have HA0 := Lib.hid (hA.on bx.b)
  have HP0 := Lib.hid (hX.on bx.b)
  have HG0 := Lib.hid (hG.on bx.b)
  have HT0 := Lib.hid (hT.on bx.b)
  have HTw := Lib.hid hT
  have HS1 := Lib.hid (show (Tryd.prog.info? 31).map (·.size) = some (barr key).size by rw [barr_size, hk]; exact size_u8x32)
  have HS2 := Lib.hid (show (Tryd.prog.info? 62).map (·.size) = some (barr nonce).size by rw [barr_size, hnon]; exact size_u8x12)
  have HMA := Lib.hid hX.len
  have HMB := Lib.hid hG.len
  have HKL := Lib.hid hk
  have HNL := Lib.hid hnon
  have HF := Lib.hid hfew
  have HAL := Lib.hid (few4_3 hfew).1
  have HPL := Lib.hid (few4_3 hfew).2.1
  have HGL := Lib.hid (few4_3 hfew).2.2
  have hm2 : m ≤ 2000 := by have := hX.len; have := HPL.out; omega
  have hp2 : p ≤ 2000 := by have := hG.len; have := HGL.out; omega
  have f1 : IntKind.i64.wrap ((m : Int) + 32) = (m : Int) + 32 := IntWalk.i64_in _ (by omega)
  have f2 : IntKind.i64.wrap ((p : Int) + 32) = (p : Int) + 32 := IntWalk.i64_in _ (by omega)
  have hlt2 : ¬ (p : Int) < (m : Int) := by omega
  have hlt3 : (m : Int) ≤ (p : Int) := by omega
  clear bx hA hX hT hG hk hnon hfew
  go_enter Tryd.func15, Tryd.ntmps15
  go_wp2_with fail
  refine (live4_walk _ HT0.out).mono ?_
  rintro e w1 ⟨rfl, hb⟩
  have HX1 := Lib.hid (HX0.out.on hb)
  have HA1 := Lib.hid (HA0.out.on hb)
  have HP1 := Lib.hid (HP0.out.on hb)
  have HG1 := Lib.hid (HG0.out.on hb)
  have HT1 := Lib.hid (HT0.out.on hb)
  clear hb HX0 HA0 HP0 HG0 HT0
  go_wp2_with fail
  refine (few4_three w1 28 _ rfl HA1.out HP1.out HG1.out true HF.out).mono ?_
  rintro e w2 ⟨rfl, hw2⟩
  have hb : Below w1.heap.size w1 w2 := by rw [hw2]; exact below_one' w1 _
  have HX2 := Lib.hid (HX1.out.on hb)
  have HA := Lib.hid (HA1.out.on hb)
  have HP := Lib.hid (HP1.out.on hb)
  have HG := Lib.hid (HG1.out.on hb)
  have HT := Lib.hid (HT1.out.on hb)
  clear hb hw2 HX1 HA1 HP1 HG1 HT1
  go_wp2
  refine wp_region_held_drew (S := fun w' => Below w2.heap.size w2 w') (by kernel_rfl) (Below.refl _ _).drew (fun _ => ?_)
  have HS := Lib.hid ((Below.refl w2.heap.size w2).drew)
  have HA := Lib.hid (HA.out.on (HS.out))
  have HP := Lib.hid (HP.out.on (HS.out))
  have HG := Lib.hid (HG.out.on (HS.out))
  have HT := Lib.hid (HT.out.on (HS.out))
  generalize World.drew w2 = v0 at *
  try simp only [Act.put, List.setIfInBounds_toArray, List.set_cons_succ, List.set_cons_zero]
  refine wpAnyH_take (i := 0) (oi := ⟨some 30, .load 31 (.tmp 5), 31, _, _, none⟩) (v := .agg (barr key)) rfl (by kernel_rfl) (by kernel_rfl) (by kernel_rfl) (fun _ _ _ h => h) (Or.inl ⟨by rfl, fun vv hvv => yields_arr 31 (.tmp 5) rfl w.heap.size rfl (HX2.out.on hvv).k _ Tryd.underlying31 rfl HS1.out⟩) HS.out ?_
  try simp only [Act.put, List.setIfInBounds_toArray, List.set_cons_succ, List.set_cons_zero]
  refine wpAnyH_take (i := 1) (oi := ⟨some 31, .load 62 (.tmp 6), 62, _, _, none⟩) (v := .agg (barr nonce)) rfl (by kernel_rfl) (by kernel_rfl) (by kernel_rfl) (fun _ _ _ h => h) (Or.inl ⟨by rfl, fun vv hvv => yields_arr 62 (.tmp 6) rfl (w.heap.size + 1) rfl (HX2.out.on hvv).n _ Tryd.underlying62 rfl HS2.out⟩) HS.out ?_
  try simp only [Act.put, List.setIfInBounds_toArray, List.set_cons_succ, List.set_cons_zero]
  refine wpAnyH_take (i := 2) (oi := ⟨some 32, .move (.tmp 2), 28, _, _, none⟩) (v := .slice a n c) rfl (by kernel_rfl) (by kernel_rfl) (by kernel_rfl) (fun _ _ _ h => h) (Or.inl ⟨by rfl, fun _ _ => by go_simp⟩) HS.out ?_
  try simp only [Act.put, List.setIfInBounds_toArray, List.set_cons_succ, List.set_cons_zero]
  refine wpAnyH_take (i := 3) (oi := ⟨some 33, .move (.tmp 3), 28, _, _, none⟩) (v := .slice b m d) rfl (by kernel_rfl) (by kernel_rfl) (by kernel_rfl) (fun _ _ _ h => h) (Or.inl ⟨by rfl, fun _ _ => by go_simp⟩) HS.out ?_
  try simp only [Act.put, List.setIfInBounds_toArray, List.set_cons_succ, List.set_cons_zero]
  refine wpAnyH_take (i := 5) (oi := ⟨some 35, .load 31 (.tmp 5), 31, _, _, none⟩) (v := .agg (barr key)) rfl (by kernel_rfl) (by kernel_rfl) (by kernel_rfl) (fun _ _ _ h => h) (Or.inl ⟨by rfl, fun vv hvv => yields_arr 31 (.tmp 5) rfl w.heap.size rfl (HX2.out.on hvv).k _ Tryd.underlying31 rfl HS1.out⟩) HS.out ?_
  try simp only [Act.put, List.setIfInBounds_toArray, List.set_cons_succ, List.set_cons_zero]
  refine wpAnyH_take (i := 6) (oi := ⟨some 36, .load 62 (.tmp 6), 62, _, _, none⟩) (v := .agg (barr nonce)) rfl (by kernel_rfl) (by kernel_rfl) (by kernel_rfl) (fun _ _ _ h => h) (Or.inl ⟨by rfl, fun vv hvv => yields_arr 62 (.tmp 6) rfl (w.heap.size + 1) rfl (HX2.out.on hvv).n _ Tryd.underlying62 rfl HS2.out⟩) HS.out ?_
  try simp only [Act.put, List.setIfInBounds_toArray, List.set_cons_succ, List.set_cons_zero]
  refine wpAnyH_take (i := 7) (oi := ⟨some 37, .move (.tmp 4), 28, _, _, none⟩) (v := .slice g p q) rfl (by kernel_rfl) (by kernel_rfl) (by kernel_rfl) (fun _ _ _ h => h) (Or.inl ⟨by rfl, fun _ _ => by go_simp⟩) HS.out ?_
  try simp only [Act.put, List.setIfInBounds_toArray, List.set_cons_succ, List.set_cons_zero]
  refine wpAnyH_ready (rs := [4]) (by kernel_rfl) (by simp) ?_
  refine AllReadyH.cons (o := ⟨some 34, .call { callee := .value (.func 47), args := #[.tmp 30, .tmp 31, .tmp 32, .tmp 33], argTypes := #[31, 62, 28, 28] }, 28, _, _, none⟩) rfl (fun K hK => ?_) AllReadyH.nil
  go_simp
  refine (seal_walk key nonce ad ta HKL.out HNL.out _ _ _ _ _ _ v0 HA.out HP.out HT.out (by have := HAL.out; omega) (by have := HPL.out; omega)).mono ?_
  rintro e v1 ⟨ax, nx, cx, rfl, hO, hb⟩
  have HA := Lib.hid (HA.out.on hb)
  have HP := Lib.hid (HP.out.on hb)
  have HG := Lib.hid (HG.out.on hb)
  have HT := Lib.hid (HT.out.on hb)
  have HS := Lib.hid (HS.out.trans (hb.mono HS.out.size))
  have TX := Lib.hid (hO.txt)
  clear hb hO
  refine hK _ _ HS.out (fun _ => ?_)
  clear hK K
  try simp only [Act.put, List.setIfInBounds_toArray, List.set_cons_succ, List.set_cons_zero]
  refine wpAnyH_ready (rs := [8]) (by kernel_rfl) (by simp) ?_
  refine AllReadyH.cons (o := ⟨some 38, .call { callee := .value (.func 47), args := #[.tmp 35, .tmp 36, .const (.slice none 0 0), .tmp 37], argTypes := #[31, 62, 28, 28] }, 28, _, _, none⟩) rfl (fun K hK => ?_) AllReadyH.nil
  go_simp
  refine (seal_walk key nonce [] tb HKL.out HNL.out none _ 0 0 _ _ v1 (Txt.nil _ _) HG.out HT.out (by simp) (by have := HGL.out; omega)).mono ?_
  rintro e v2 ⟨ay, ny, cy, rfl, hO, hb⟩
  have HA := Lib.hid (HA.out.on hb)
  have HP := Lib.hid (HP.out.on hb)
  have HG := Lib.hid (HG.out.on hb)
  have HT := Lib.hid (HT.out.on hb)
  have HS := Lib.hid (HS.out.trans (hb.mono HS.out.size))
  have TX := Lib.hid (TX.out.on hb)
  have TY := Lib.hid (hO.txt)
  clear hb hO
  refine hK _ _ HS.out (fun _ => ?_)
  clear hK K
  try simp only [Act.put, List.setIfInBounds_toArray, List.set_cons_succ, List.set_cons_zero]
  refine wpAnyH_take (i := 9) (oi := ⟨some 12, .assign (.tmp 34), 28, _, _, none⟩) (v := .slice ax nx cx) rfl (by kernel_rfl) (by kernel_rfl) (by kernel_rfl) (fun _ _ _ h => h) (Or.inl ⟨by rfl, fun _ _ => by go_simp⟩) HS.out ?_
  try simp only [Act.put, List.setIfInBounds_toArray, List.set_cons_succ, List.set_cons_zero]
  refine wpAnyH_take (i := 10) (oi := ⟨some 13, .assign (.tmp 38), 28, _, _, none⟩) (v := .slice ay ny cy) rfl (by kernel_rfl) (by kernel_rfl) (by kernel_rfl) (fun _ _ _ h => h) (Or.inl ⟨by rfl, fun _ _ => by go_simp⟩) HS.out ?_
  try simp only [Act.put, List.setIfInBounds_toArray, List.set_cons_succ, List.set_cons_zero]
  refine wpAnyH_done (by kernel_rfl) ?_ _
  obtain rfl : nx = m + 32 := by have h := TX.out.len; rw [sealL_len, ← HMA.out] at h; exact h
  obtain rfl : ny = p + 32 := by have h := TY.out.len; rw [sealL_len, ← HMB.out] at h; exact h
  have HX4 := Lib.hid (HX2.out.on HS.out)
  have sx := slice_h TX.out (show m ≤ m + 32 by omega)
  have sy := slice_h TY.out (show m ≤ p + 32 by omega)
  have sa := slice_h HP.out (show m ≤ m by omega)
  have sb := slice_h HG.out (show m ≤ p by omega)
  have HCX := Lib.hid (by have h := TX.out.cut (show m ≤ m + 32 by omega); rw [seal_cut _ _ _ _ _ (show m ≤ ta.length by rw [← HMA.out]; omega)] at h; exact h)
  have HCY := Lib.hid (by have h := TY.out.cut (show m ≤ p + 32 by omega); rw [seal_cut _ _ _ _ _ (show m ≤ tb.length by rw [← HMB.out]; omega)] at h; exact h)
  have HCA := Lib.hid (HP.out.cut (show m ≤ m by omega))
  have HCB := Lib.hid (HG.out.cut (show m ≤ p by omega))
  have HEQ := Lib.hid (xor_cancel (streamL (encK key) nonce m) (ta.take m) (tb.take m) (by rw [streamL_len, List.length_take, ← HMA.out]; omega) (by rw [streamL_len, List.length_take, ← HMB.out]; omega))
  clear TX TY HS HA HP HG HT
  go_wp2
  refine wp_region_held_drew (S := fun w' => Below v2.heap.size v2 w') (by kernel_rfl) (Below.refl _ _).drew (fun _ => ?_)
  have HS := Lib.hid ((Below.refl v2.heap.size v2).drew)
  have HCX := Lib.hid (HCX.out.on (HS.out))
  have HCY := Lib.hid (HCY.out.on (HS.out))
  have HCA := Lib.hid (HCA.out.on (HS.out))
  have HCB := Lib.hid (HCB.out.on (HS.out))
  generalize World.drew v2 = u0 at *
  try simp only [Act.put, List.setIfInBounds_toArray, List.set_cons_succ, List.set_cons_zero]
  refine wpAnyH_take (i := 0) (oi := ⟨some 53, .move (.tmp 12), 28, _, _, none⟩) (v := .slice ax (m + 32) cx) rfl (by kernel_rfl) (by kernel_rfl) (by kernel_rfl) (fun _ _ _ h => h) (Or.inl ⟨by rfl, fun _ _ => by go_simp⟩) HS.out ?_
  try simp only [Act.put, List.setIfInBounds_toArray, List.set_cons_succ, List.set_cons_zero]
  refine wpAnyH_take (i := 1) (oi := ⟨some 54, .move (.tmp 11), 3, _, _, none⟩) (v := .int .i64 (m : Nat)) rfl (by kernel_rfl) (by kernel_rfl) (by kernel_rfl) (fun _ _ _ h => h) (Or.inl ⟨by rfl, fun _ _ => by go_simp⟩) HS.out ?_
  try simp only [Act.put, List.setIfInBounds_toArray, List.set_cons_succ, List.set_cons_zero]
  refine wpAnyH_take (i := 2) (oi := ⟨some 55, .slice 28 (.tmp 53) none (some (.tmp 54)) none, 28, _, _, none⟩) (v := .slice ax m cx) rfl (by kernel_rfl) (by kernel_rfl) (by kernel_rfl) (fun _ _ _ h => h) (Or.inl ⟨by rfl, fun _ _ => by go_simp⟩) HS.out ?_
  try simp only [Act.put, List.setIfInBounds_toArray, List.set_cons_succ, List.set_cons_zero]
  refine wpAnyH_take (i := 3) (oi := ⟨some 56, .move (.tmp 13), 28, _, _, none⟩) (v := .slice ay (p + 32) cy) rfl (by kernel_rfl) (by kernel_rfl) (by kernel_rfl) (fun _ _ _ h => h) (Or.inl ⟨by rfl, fun _ _ => by go_simp⟩) HS.out ?_
  try simp only [Act.put, List.setIfInBounds_toArray, List.set_cons_succ, List.set_cons_zero]
  refine wpAnyH_take (i := 4) (oi := ⟨some 57, .move (.tmp 11), 3, _, _, none⟩) (v := .int .i64 (m : Nat)) rfl (by kernel_rfl) (by kernel_rfl) (by kernel_rfl) (fun _ _ _ h => h) (Or.inl ⟨by rfl, fun _ _ => by go_simp⟩) HS.out ?_
  try simp only [Act.put, List.setIfInBounds_toArray, List.set_cons_succ, List.set_cons_zero]
  refine wpAnyH_take (i := 5) (oi := ⟨some 58, .slice 28 (.tmp 56) none (some (.tmp 57)) none, 28, _, _, none⟩) (v := .slice ay m cy) rfl (by kernel_rfl) (by kernel_rfl) (by kernel_rfl) (fun _ _ _ h => h) (Or.inl ⟨by rfl, fun _ _ => by go_simp⟩) HS.out ?_
  try simp only [Act.put, List.setIfInBounds_toArray, List.set_cons_succ, List.set_cons_zero]
  refine wpAnyH_take (i := 7) (oi := ⟨some 60, .move (.tmp 3), 28, _, _, none⟩) (v := .slice b m d) rfl (by kernel_rfl) (by kernel_rfl) (by kernel_rfl) (fun _ _ _ h => h) (Or.inl ⟨by rfl, fun _ _ => by go_simp⟩) HS.out ?_
  try simp only [Act.put, List.setIfInBounds_toArray, List.set_cons_succ, List.set_cons_zero]
  refine wpAnyH_take (i := 8) (oi := ⟨some 61, .move (.tmp 11), 3, _, _, none⟩) (v := .int .i64 (m : Nat)) rfl (by kernel_rfl) (by kernel_rfl) (by kernel_rfl) (fun _ _ _ h => h) (Or.inl ⟨by rfl, fun _ _ => by go_simp⟩) HS.out ?_
  try simp only [Act.put, List.setIfInBounds_toArray, List.set_cons_succ, List.set_cons_zero]
  refine wpAnyH_take (i := 9) (oi := ⟨some 62, .slice 28 (.tmp 60) none (some (.tmp 61)) none, 28, _, _, none⟩) (v := .slice b m d) rfl (by kernel_rfl) (by kernel_rfl) (by kernel_rfl) (fun _ _ _ h => h) (Or.inl ⟨by rfl, fun _ _ => by go_simp⟩) HS.out ?_
  try simp only [Act.put, List.setIfInBounds_toArray, List.set_cons_succ, List.set_cons_zero]
  refine wpAnyH_take (i := 10) (oi := ⟨some 63, .move (.tmp 4), 28, _, _, none⟩) (v := .slice g p q) rfl (by kernel_rfl) (by kernel_rfl) (by kernel_rfl) (fun _ _ _ h => h) (Or.inl ⟨by rfl, fun _ _ => by go_simp⟩) HS.out ?_
  try simp only [Act.put, List.setIfInBounds_toArray, List.set_cons_succ, List.set_cons_zero]
  refine wpAnyH_take (i := 11) (oi := ⟨some 64, .move (.tmp 11), 3, _, _, none⟩) (v := .int .i64 (m : Nat)) rfl (by kernel_rfl) (by kernel_rfl) (by kernel_rfl) (fun _ _ _ h => h) (Or.inl ⟨by rfl, fun _ _ => by go_simp⟩) HS.out ?_
  try simp only [Act.put, List.setIfInBounds_toArray, List.set_cons_succ, List.set_cons_zero]
  refine wpAnyH_take (i := 12) (oi := ⟨some 65, .slice 28 (.tmp 63) none (some (.tmp 64)) none, 28, _, _, none⟩) (v := .slice g m q) rfl (by kernel_rfl) (by kernel_rfl) (by kernel_rfl) (fun _ _ _ h => h) (Or.inl ⟨by rfl, fun _ _ => by go_simp⟩) HS.out ?_
  try simp only [Act.put, List.setIfInBounds_toArray, List.set_cons_succ, List.set_cons_zero]
  refine wpAnyH_ready (rs := [6]) (by kernel_rfl) (by simp) ?_
  refine AllReadyH.cons (o := ⟨some 59, .call { callee := .value (.func 51), args := #[.tmp 55, .tmp 58], argTypes := #[28, 28] }, 28, _, _, none⟩) rfl (fun K hK => ?_) AllReadyH.nil
  go_simp
  refine (xor_walk _ _ _ _ _ _ _ _ rfl (by omega) u0 HCX.out HCY.out).mono ?_
  rintro e v101 ⟨a6, c6, rfl, hT, hb⟩
  have HCX := Lib.hid (HCX.out.on hb)
  have HCY := Lib.hid (HCY.out.on hb)
  have HCA := Lib.hid (HCA.out.on hb)
  have HCB := Lib.hid (HCB.out.on hb)
  have HS := Lib.hid (HS.out.trans (hb.mono HS.out.size))
  have TP := Lib.hid (hT)
  clear hb hT
  refine hK _ _ HS.out (fun _ => ?_)
  clear hK K
  try simp only [Act.put, List.setIfInBounds_toArray, List.set_cons_succ, List.set_cons_zero]
  refine wpAnyH_ready (rs := [13]) (by kernel_rfl) (by simp) ?_
  refine AllReadyH.cons (o := ⟨some 66, .call { callee := .value (.func 51), args := #[.tmp 62, .tmp 65], argTypes := #[28, 28] }, 28, _, _, none⟩) rfl (fun K hK => ?_) AllReadyH.nil
  go_simp
  refine (xor_walk _ _ _ _ _ _ _ _ rfl (by omega) v101 HCA.out HCB.out).mono ?_
  rintro e v102 ⟨a7, c7, rfl, hT, hb⟩
  rw [← HEQ.out] at hT
  have HCX := Lib.hid (HCX.out.on hb)
  have HCY := Lib.hid (HCY.out.on hb)
  have HCA := Lib.hid (HCA.out.on hb)
  have HCB := Lib.hid (HCB.out.on hb)
  have HS := Lib.hid (HS.out.trans (hb.mono HS.out.size))
  have TP := Lib.hid (TP.out.on hb)
  have TQ := Lib.hid (hT)
  clear hb hT
  refine hK _ _ HS.out (fun _ => ?_)
  clear hK K
  try simp only [Act.put, List.setIfInBounds_toArray, List.set_cons_succ, List.set_cons_zero]
  refine wpAnyH_ready (rs := [14]) (by kernel_rfl) (by simp) ?_
  refine AllReadyH.cons (o := ⟨some 67, .call { callee := .value (.func 38), args := #[.tmp 59, .tmp 66], argTypes := #[28, 28] }, 4, _, _, none⟩) rfl (fun K hK => ?_) AllReadyH.nil
  go_simp
  refine (equal_same _ _ _ _ _ _ _ v102 TP.out TQ.out).mono ?_
  rintro e w' ⟨rfl, rfl⟩
  refine hK _ _ HS.out (fun _ => ?_)
  clear hK K
  try simp only [Act.put, List.setIfInBounds_toArray, List.set_cons_succ, List.set_cons_zero]
  refine wpAnyH_take (i := 15) (oi := ⟨some 10, .assign (.tmp 67), 4, _, _, none⟩) (v := .bool true) rfl (by kernel_rfl) (by kernel_rfl) (by kernel_rfl) (fun _ _ _ h => h) (Or.inl ⟨by rfl, fun _ _ => by go_simp⟩) HS.out ?_
  try simp only [Act.put, List.setIfInBounds_toArray, List.set_cons_succ, List.set_cons_zero]
  refine wpAnyH_done (by kernel_rfl) ?_ _
  go_wp2
  go_ret
  exact ⟨rfl, HX4.out.b.trans (HS.out.mono HX4.out.b.size)⟩
set_option maxRecDepth 100000 in
set_option maxHeartbeats 4000000 in
theorem sealbits_gt (key nonce ad ta tb : List UInt8) (hk : key.length = 32) (hnon : nonce.length = 12) (a b g : Option Addr) (n c m d p q : Nat) (w : World) (hA : Txt w a n c ad) (hX : Txt w b m d ta) (hG : Txt w g p q tb) (hT : Two w) (hfew : fewOf 2000 [ad, ta, tb] = true) (hgt : p < m) :
    Calls Tryd.prog 15 #[.agg (barr key), .agg (barr nonce), .slice a n c, .slice b m d, .slice g p q] w fun e w' => e = .returned (.bool true) ∧ Below w.heap.size w w' := by
  have bx := Boxed.new w key nonce
  have HX0 := Lib.hid bx
  have HA0 := Lib.hid (hA.on bx.b)
  have HP0 := Lib.hid (hX.on bx.b)
  have HG0 := Lib.hid (hG.on bx.b)
  have HT0 := Lib.hid (hT.on bx.b)
  have HTw := Lib.hid hT
  have HS1 := Lib.hid (show (Tryd.prog.info? 31).map (·.size) = some (barr key).size by rw [barr_size, hk]; exact size_u8x32)
  have HS2 := Lib.hid (show (Tryd.prog.info? 62).map (·.size) = some (barr nonce).size by rw [barr_size, hnon]; exact size_u8x12)
  have HMA := Lib.hid hX.len
  have HMB := Lib.hid hG.len
  have HKL := Lib.hid hk
  have HNL := Lib.hid hnon
  have HF := Lib.hid hfew
  have HAL := Lib.hid (few4_3 hfew).1
  have HPL := Lib.hid (few4_3 hfew).2.1
  have HGL := Lib.hid (few4_3 hfew).2.2
  have hm2 : m ≤ 2000 := by have := hX.len; have := HPL.out; omega
  have hp2 : p ≤ 2000 := by have := hG.len; have := HGL.out; omega
  have f1 : IntKind.i64.wrap ((m : Int) + 32) = (m : Int) + 32 := IntWalk.i64_in _ (by omega)
  have f2 : IntKind.i64.wrap ((p : Int) + 32) = (p : Int) + 32 := IntWalk.i64_in _ (by omega)
  have hlt1 : (p : Int) < (m : Int) := by omega
  have hlt2 : ¬ (m : Int) < (p : Int) := by omega
  have hlt3 : (p : Int) ≤ (m : Int) := by omega
  clear bx hA hX hT hG hk hnon hfew
  go_enter Tryd.func15, Tryd.ntmps15
  go_wp2_with fail
  refine (live4_walk _ HT0.out).mono ?_
  rintro e w1 ⟨rfl, hb⟩
  have HX1 := Lib.hid (HX0.out.on hb)
  have HA1 := Lib.hid (HA0.out.on hb)
  have HP1 := Lib.hid (HP0.out.on hb)
  have HG1 := Lib.hid (HG0.out.on hb)
  have HT1 := Lib.hid (HT0.out.on hb)
  clear hb HX0 HA0 HP0 HG0 HT0
  go_wp2_with fail
  refine (few4_three w1 28 _ rfl HA1.out HP1.out HG1.out true HF.out).mono ?_
  rintro e w2 ⟨rfl, hw2⟩
  have hb : Below w1.heap.size w1 w2 := by rw [hw2]; exact below_one' w1 _
  have HX2 := Lib.hid (HX1.out.on hb)
  have HA := Lib.hid (HA1.out.on hb)
  have HP := Lib.hid (HP1.out.on hb)
  have HG := Lib.hid (HG1.out.on hb)
  have HT := Lib.hid (HT1.out.on hb)
  clear hb hw2 HX1 HA1 HP1 HG1 HT1
  go_wp2
  refine wp_region_held_drew (S := fun w' => Below w2.heap.size w2 w') (by kernel_rfl) (Below.refl _ _).drew (fun _ => ?_)
  have HS := Lib.hid ((Below.refl w2.heap.size w2).drew)
  have HA := Lib.hid (HA.out.on (HS.out))
  have HP := Lib.hid (HP.out.on (HS.out))
  have HG := Lib.hid (HG.out.on (HS.out))
  have HT := Lib.hid (HT.out.on (HS.out))
  generalize World.drew w2 = v0 at *
  try simp only [Act.put, List.setIfInBounds_toArray, List.set_cons_succ, List.set_cons_zero]
  refine wpAnyH_take (i := 0) (oi := ⟨some 30, .load 31 (.tmp 5), 31, _, _, none⟩) (v := .agg (barr key)) rfl (by kernel_rfl) (by kernel_rfl) (by kernel_rfl) (fun _ _ _ h => h) (Or.inl ⟨by rfl, fun vv hvv => yields_arr 31 (.tmp 5) rfl w.heap.size rfl (HX2.out.on hvv).k _ Tryd.underlying31 rfl HS1.out⟩) HS.out ?_
  try simp only [Act.put, List.setIfInBounds_toArray, List.set_cons_succ, List.set_cons_zero]
  refine wpAnyH_take (i := 1) (oi := ⟨some 31, .load 62 (.tmp 6), 62, _, _, none⟩) (v := .agg (barr nonce)) rfl (by kernel_rfl) (by kernel_rfl) (by kernel_rfl) (fun _ _ _ h => h) (Or.inl ⟨by rfl, fun vv hvv => yields_arr 62 (.tmp 6) rfl (w.heap.size + 1) rfl (HX2.out.on hvv).n _ Tryd.underlying62 rfl HS2.out⟩) HS.out ?_
  try simp only [Act.put, List.setIfInBounds_toArray, List.set_cons_succ, List.set_cons_zero]
  refine wpAnyH_take (i := 2) (oi := ⟨some 32, .move (.tmp 2), 28, _, _, none⟩) (v := .slice a n c) rfl (by kernel_rfl) (by kernel_rfl) (by kernel_rfl) (fun _ _ _ h => h) (Or.inl ⟨by rfl, fun _ _ => by go_simp⟩) HS.out ?_
  try simp only [Act.put, List.setIfInBounds_toArray, List.set_cons_succ, List.set_cons_zero]
  refine wpAnyH_take (i := 3) (oi := ⟨some 33, .move (.tmp 3), 28, _, _, none⟩) (v := .slice b m d) rfl (by kernel_rfl) (by kernel_rfl) (by kernel_rfl) (fun _ _ _ h => h) (Or.inl ⟨by rfl, fun _ _ => by go_simp⟩) HS.out ?_
  try simp only [Act.put, List.setIfInBounds_toArray, List.set_cons_succ, List.set_cons_zero]
  refine wpAnyH_take (i := 5) (oi := ⟨some 35, .load 31 (.tmp 5), 31, _, _, none⟩) (v := .agg (barr key)) rfl (by kernel_rfl) (by kernel_rfl) (by kernel_rfl) (fun _ _ _ h => h) (Or.inl ⟨by rfl, fun vv hvv => yields_arr 31 (.tmp 5) rfl w.heap.size rfl (HX2.out.on hvv).k _ Tryd.underlying31 rfl HS1.out⟩) HS.out ?_
  try simp only [Act.put, List.setIfInBounds_toArray, List.set_cons_succ, List.set_cons_zero]
  refine wpAnyH_take (i := 6) (oi := ⟨some 36, .load 62 (.tmp 6), 62, _, _, none⟩) (v := .agg (barr nonce)) rfl (by kernel_rfl) (by kernel_rfl) (by kernel_rfl) (fun _ _ _ h => h) (Or.inl ⟨by rfl, fun vv hvv => yields_arr 62 (.tmp 6) rfl (w.heap.size + 1) rfl (HX2.out.on hvv).n _ Tryd.underlying62 rfl HS2.out⟩) HS.out ?_
  try simp only [Act.put, List.setIfInBounds_toArray, List.set_cons_succ, List.set_cons_zero]
  refine wpAnyH_take (i := 7) (oi := ⟨some 37, .move (.tmp 4), 28, _, _, none⟩) (v := .slice g p q) rfl (by kernel_rfl) (by kernel_rfl) (by kernel_rfl) (fun _ _ _ h => h) (Or.inl ⟨by rfl, fun _ _ => by go_simp⟩) HS.out ?_
  try simp only [Act.put, List.setIfInBounds_toArray, List.set_cons_succ, List.set_cons_zero]
  refine wpAnyH_ready (rs := [4]) (by kernel_rfl) (by simp) ?_
  refine AllReadyH.cons (o := ⟨some 34, .call { callee := .value (.func 47), args := #[.tmp 30, .tmp 31, .tmp 32, .tmp 33], argTypes := #[31, 62, 28, 28] }, 28, _, _, none⟩) rfl (fun K hK => ?_) AllReadyH.nil
  go_simp
  refine (seal_walk key nonce ad ta HKL.out HNL.out _ _ _ _ _ _ v0 HA.out HP.out HT.out (by have := HAL.out; omega) (by have := HPL.out; omega)).mono ?_
  rintro e v1 ⟨ax, nx, cx, rfl, hO, hb⟩
  have HA := Lib.hid (HA.out.on hb)
  have HP := Lib.hid (HP.out.on hb)
  have HG := Lib.hid (HG.out.on hb)
  have HT := Lib.hid (HT.out.on hb)
  have HS := Lib.hid (HS.out.trans (hb.mono HS.out.size))
  have TX := Lib.hid (hO.txt)
  clear hb hO
  refine hK _ _ HS.out (fun _ => ?_)
  clear hK K
  try simp only [Act.put, List.setIfInBounds_toArray, List.set_cons_succ, List.set_cons_zero]
  refine wpAnyH_ready (rs := [8]) (by kernel_rfl) (by simp) ?_
  refine AllReadyH.cons (o := ⟨some 38, .call { callee := .value (.func 47), args := #[.tmp 35, .tmp 36, .const (.slice none 0 0), .tmp 37], argTypes := #[31, 62, 28, 28] }, 28, _, _, none⟩) rfl (fun K hK => ?_) AllReadyH.nil
  go_simp
  refine (seal_walk key nonce [] tb HKL.out HNL.out none _ 0 0 _ _ v1 (Txt.nil _ _) HG.out HT.out (by simp) (by have := HGL.out; omega)).mono ?_
  rintro e v2 ⟨ay, ny, cy, rfl, hO, hb⟩
  have HA := Lib.hid (HA.out.on hb)
  have HP := Lib.hid (HP.out.on hb)
  have HG := Lib.hid (HG.out.on hb)
  have HT := Lib.hid (HT.out.on hb)
  have HS := Lib.hid (HS.out.trans (hb.mono HS.out.size))
  have TX := Lib.hid (TX.out.on hb)
  have TY := Lib.hid (hO.txt)
  clear hb hO
  refine hK _ _ HS.out (fun _ => ?_)
  clear hK K
  try simp only [Act.put, List.setIfInBounds_toArray, List.set_cons_succ, List.set_cons_zero]
  refine wpAnyH_take (i := 9) (oi := ⟨some 12, .assign (.tmp 34), 28, _, _, none⟩) (v := .slice ax nx cx) rfl (by kernel_rfl) (by kernel_rfl) (by kernel_rfl) (fun _ _ _ h => h) (Or.inl ⟨by rfl, fun _ _ => by go_simp⟩) HS.out ?_
  try simp only [Act.put, List.setIfInBounds_toArray, List.set_cons_succ, List.set_cons_zero]
  refine wpAnyH_take (i := 10) (oi := ⟨some 13, .assign (.tmp 38), 28, _, _, none⟩) (v := .slice ay ny cy) rfl (by kernel_rfl) (by kernel_rfl) (by kernel_rfl) (fun _ _ _ h => h) (Or.inl ⟨by rfl, fun _ _ => by go_simp⟩) HS.out ?_
  try simp only [Act.put, List.setIfInBounds_toArray, List.set_cons_succ, List.set_cons_zero]
  refine wpAnyH_done (by kernel_rfl) ?_ _
  obtain rfl : nx = m + 32 := by have h := TX.out.len; rw [sealL_len, ← HMA.out] at h; exact h
  obtain rfl : ny = p + 32 := by have h := TY.out.len; rw [sealL_len, ← HMB.out] at h; exact h
  have HX4 := Lib.hid (HX2.out.on HS.out)
  have sx := slice_h TX.out (show p ≤ m + 32 by omega)
  have sy := slice_h TY.out (show p ≤ p + 32 by omega)
  have sa := slice_h HP.out (show p ≤ m by omega)
  have sb := slice_h HG.out (show p ≤ p by omega)
  have HCX := Lib.hid (by have h := TX.out.cut (show p ≤ m + 32 by omega); rw [seal_cut _ _ _ _ _ (show p ≤ ta.length by rw [← HMA.out]; omega)] at h; exact h)
  have HCY := Lib.hid (by have h := TY.out.cut (show p ≤ p + 32 by omega); rw [seal_cut _ _ _ _ _ (show p ≤ tb.length by rw [← HMB.out]; omega)] at h; exact h)
  have HCA := Lib.hid (HP.out.cut (show p ≤ m by omega))
  have HCB := Lib.hid (HG.out.cut (show p ≤ p by omega))
  have HEQ := Lib.hid (xor_cancel (streamL (encK key) nonce p) (ta.take p) (tb.take p) (by rw [streamL_len, List.length_take, ← HMA.out]; omega) (by rw [streamL_len, List.length_take, ← HMB.out]; omega))
  clear TX TY HS HA HP HG HT
  go_wp2
  refine wp_region_held_drew (S := fun w' => Below v2.heap.size v2 w') (by kernel_rfl) (Below.refl _ _).drew (fun _ => ?_)
  have HS := Lib.hid ((Below.refl v2.heap.size v2).drew)
  have HCX := Lib.hid (HCX.out.on (HS.out))
  have HCY := Lib.hid (HCY.out.on (HS.out))
  have HCA := Lib.hid (HCA.out.on (HS.out))
  have HCB := Lib.hid (HCB.out.on (HS.out))
  generalize World.drew v2 = u0 at *
  try simp only [Act.put, List.setIfInBounds_toArray, List.set_cons_succ, List.set_cons_zero]
  refine wpAnyH_take (i := 0) (oi := ⟨some 53, .move (.tmp 12), 28, _, _, none⟩) (v := .slice ax (m + 32) cx) rfl (by kernel_rfl) (by kernel_rfl) (by kernel_rfl) (fun _ _ _ h => h) (Or.inl ⟨by rfl, fun _ _ => by go_simp⟩) HS.out ?_
  try simp only [Act.put, List.setIfInBounds_toArray, List.set_cons_succ, List.set_cons_zero]
  refine wpAnyH_take (i := 1) (oi := ⟨some 54, .move (.tmp 11), 3, _, _, none⟩) (v := .int .i64 (p : Nat)) rfl (by kernel_rfl) (by kernel_rfl) (by kernel_rfl) (fun _ _ _ h => h) (Or.inl ⟨by rfl, fun _ _ => by go_simp⟩) HS.out ?_
  try simp only [Act.put, List.setIfInBounds_toArray, List.set_cons_succ, List.set_cons_zero]
  refine wpAnyH_take (i := 2) (oi := ⟨some 55, .slice 28 (.tmp 53) none (some (.tmp 54)) none, 28, _, _, none⟩) (v := .slice ax p cx) rfl (by kernel_rfl) (by kernel_rfl) (by kernel_rfl) (fun _ _ _ h => h) (Or.inl ⟨by rfl, fun _ _ => by go_simp⟩) HS.out ?_
  try simp only [Act.put, List.setIfInBounds_toArray, List.set_cons_succ, List.set_cons_zero]
  refine wpAnyH_take (i := 3) (oi := ⟨some 56, .move (.tmp 13), 28, _, _, none⟩) (v := .slice ay (p + 32) cy) rfl (by kernel_rfl) (by kernel_rfl) (by kernel_rfl) (fun _ _ _ h => h) (Or.inl ⟨by rfl, fun _ _ => by go_simp⟩) HS.out ?_
  try simp only [Act.put, List.setIfInBounds_toArray, List.set_cons_succ, List.set_cons_zero]
  refine wpAnyH_take (i := 4) (oi := ⟨some 57, .move (.tmp 11), 3, _, _, none⟩) (v := .int .i64 (p : Nat)) rfl (by kernel_rfl) (by kernel_rfl) (by kernel_rfl) (fun _ _ _ h => h) (Or.inl ⟨by rfl, fun _ _ => by go_simp⟩) HS.out ?_
  try simp only [Act.put, List.setIfInBounds_toArray, List.set_cons_succ, List.set_cons_zero]
  refine wpAnyH_take (i := 5) (oi := ⟨some 58, .slice 28 (.tmp 56) none (some (.tmp 57)) none, 28, _, _, none⟩) (v := .slice ay p cy) rfl (by kernel_rfl) (by kernel_rfl) (by kernel_rfl) (fun _ _ _ h => h) (Or.inl ⟨by rfl, fun _ _ => by go_simp⟩) HS.out ?_
  try simp only [Act.put, List.setIfInBounds_toArray, List.set_cons_succ, List.set_cons_zero]
  refine wpAnyH_take (i := 7) (oi := ⟨some 60, .move (.tmp 3), 28, _, _, none⟩) (v := .slice b m d) rfl (by kernel_rfl) (by kernel_rfl) (by kernel_rfl) (fun _ _ _ h => h) (Or.inl ⟨by rfl, fun _ _ => by go_simp⟩) HS.out ?_
  try simp only [Act.put, List.setIfInBounds_toArray, List.set_cons_succ, List.set_cons_zero]
  refine wpAnyH_take (i := 8) (oi := ⟨some 61, .move (.tmp 11), 3, _, _, none⟩) (v := .int .i64 (p : Nat)) rfl (by kernel_rfl) (by kernel_rfl) (by kernel_rfl) (fun _ _ _ h => h) (Or.inl ⟨by rfl, fun _ _ => by go_simp⟩) HS.out ?_
  try simp only [Act.put, List.setIfInBounds_toArray, List.set_cons_succ, List.set_cons_zero]
  refine wpAnyH_take (i := 9) (oi := ⟨some 62, .slice 28 (.tmp 60) none (some (.tmp 61)) none, 28, _, _, none⟩) (v := .slice b p d) rfl (by kernel_rfl) (by kernel_rfl) (by kernel_rfl) (fun _ _ _ h => h) (Or.inl ⟨by rfl, fun _ _ => by go_simp⟩) HS.out ?_
  try simp only [Act.put, List.setIfInBounds_toArray, List.set_cons_succ, List.set_cons_zero]
  refine wpAnyH_take (i := 10) (oi := ⟨some 63, .move (.tmp 4), 28, _, _, none⟩) (v := .slice g p q) rfl (by kernel_rfl) (by kernel_rfl) (by kernel_rfl) (fun _ _ _ h => h) (Or.inl ⟨by rfl, fun _ _ => by go_simp⟩) HS.out ?_
  try simp only [Act.put, List.setIfInBounds_toArray, List.set_cons_succ, List.set_cons_zero]
  refine wpAnyH_take (i := 11) (oi := ⟨some 64, .move (.tmp 11), 3, _, _, none⟩) (v := .int .i64 (p : Nat)) rfl (by kernel_rfl) (by kernel_rfl) (by kernel_rfl) (fun _ _ _ h => h) (Or.inl ⟨by rfl, fun _ _ => by go_simp⟩) HS.out ?_
  try simp only [Act.put, List.setIfInBounds_toArray, List.set_cons_succ, List.set_cons_zero]
  refine wpAnyH_take (i := 12) (oi := ⟨some 65, .slice 28 (.tmp 63) none (some (.tmp 64)) none, 28, _, _, none⟩) (v := .slice g p q) rfl (by kernel_rfl) (by kernel_rfl) (by kernel_rfl) (fun _ _ _ h => h) (Or.inl ⟨by rfl, fun _ _ => by go_simp⟩) HS.out ?_
  try simp only [Act.put, List.setIfInBounds_toArray, List.set_cons_succ, List.set_cons_zero]
  refine wpAnyH_ready (rs := [6]) (by kernel_rfl) (by simp) ?_
  refine AllReadyH.cons (o := ⟨some 59, .call { callee := .value (.func 51), args := #[.tmp 55, .tmp 58], argTypes := #[28, 28] }, 28, _, _, none⟩) rfl (fun K hK => ?_) AllReadyH.nil
  go_simp
  refine (xor_walk _ _ _ _ _ _ _ _ rfl (by omega) u0 HCX.out HCY.out).mono ?_
  rintro e v101 ⟨a6, c6, rfl, hT, hb⟩
  have HCX := Lib.hid (HCX.out.on hb)
  have HCY := Lib.hid (HCY.out.on hb)
  have HCA := Lib.hid (HCA.out.on hb)
  have HCB := Lib.hid (HCB.out.on hb)
  have HS := Lib.hid (HS.out.trans (hb.mono HS.out.size))
  have TP := Lib.hid (hT)
  clear hb hT
  refine hK _ _ HS.out (fun _ => ?_)
  clear hK K
  try simp only [Act.put, List.setIfInBounds_toArray, List.set_cons_succ, List.set_cons_zero]
  refine wpAnyH_ready (rs := [13]) (by kernel_rfl) (by simp) ?_
  refine AllReadyH.cons (o := ⟨some 66, .call { callee := .value (.func 51), args := #[.tmp 62, .tmp 65], argTypes := #[28, 28] }, 28, _, _, none⟩) rfl (fun K hK => ?_) AllReadyH.nil
  go_simp
  refine (xor_walk _ _ _ _ _ _ _ _ rfl (by omega) v101 HCA.out HCB.out).mono ?_
  rintro e v102 ⟨a7, c7, rfl, hT, hb⟩
  rw [← HEQ.out] at hT
  have HCX := Lib.hid (HCX.out.on hb)
  have HCY := Lib.hid (HCY.out.on hb)
  have HCA := Lib.hid (HCA.out.on hb)
  have HCB := Lib.hid (HCB.out.on hb)
  have HS := Lib.hid (HS.out.trans (hb.mono HS.out.size))
  have TP := Lib.hid (TP.out.on hb)
  have TQ := Lib.hid (hT)
  clear hb hT
  refine hK _ _ HS.out (fun _ => ?_)
  clear hK K
  try simp only [Act.put, List.setIfInBounds_toArray, List.set_cons_succ, List.set_cons_zero]
  refine wpAnyH_ready (rs := [14]) (by kernel_rfl) (by simp) ?_
  refine AllReadyH.cons (o := ⟨some 67, .call { callee := .value (.func 38), args := #[.tmp 59, .tmp 66], argTypes := #[28, 28] }, 4, _, _, none⟩) rfl (fun K hK => ?_) AllReadyH.nil
  go_simp
  refine (equal_same _ _ _ _ _ _ _ v102 TP.out TQ.out).mono ?_
  rintro e w' ⟨rfl, rfl⟩
  refine hK _ _ HS.out (fun _ => ?_)
  clear hK K
  try simp only [Act.put, List.setIfInBounds_toArray, List.set_cons_succ, List.set_cons_zero]
  refine wpAnyH_take (i := 15) (oi := ⟨some 10, .assign (.tmp 67), 4, _, _, none⟩) (v := .bool true) rfl (by kernel_rfl) (by kernel_rfl) (by kernel_rfl) (fun _ _ _ h => h) (Or.inl ⟨by rfl, fun _ _ => by go_simp⟩) HS.out ?_
  try simp only [Act.put, List.setIfInBounds_toArray, List.set_cons_succ, List.set_cons_zero]
  refine wpAnyH_done (by kernel_rfl) ?_ _
  go_wp2
  go_ret
  exact ⟨rfl, HX4.out.b.trans (HS.out.mono HX4.out.b.size)⟩
set_option maxRecDepth 100000 in
set_option maxHeartbeats 4000000 in
theorem sealbits_out (key nonce ad ta tb : List UInt8) (hk : key.length = 32) (hnon : nonce.length = 12) (a b g : Option Addr) (n c m d p q : Nat) (w : World) (hA : Txt w a n c ad) (hX : Txt w b m d ta) (hG : Txt w g p q tb) (hT : Two w) (hfew : fewOf 2000 [ad, ta, tb] = false) :
    Calls Tryd.prog 15 #[.agg (barr key), .agg (barr nonce), .slice a n c, .slice b m d, .slice g p q] w fun e w' => e = .returned (.bool true) ∧ Below w.heap.size w w' := by
  have bx := Boxed.new w key nonce
  have HX0 := Lib.hid bx
  have HA0 := Lib.hid (hA.on bx.b)
  have HP0 := Lib.hid (hX.on bx.b)
  have HG0 := Lib.hid (hG.on bx.b)
  have HT0 := Lib.hid (hT.on bx.b)
  have HTw := Lib.hid hT
  have HS1 := Lib.hid (show (Tryd.prog.info? 31).map (·.size) = some (barr key).size by rw [barr_size, hk]; exact size_u8x32)
  have HS2 := Lib.hid (show (Tryd.prog.info? 62).map (·.size) = some (barr nonce).size by rw [barr_size, hnon]; exact size_u8x12)
  have HMA := Lib.hid hX.len
  have HMB := Lib.hid hG.len
  have HKL := Lib.hid hk
  have HNL := Lib.hid hnon
  have HF := Lib.hid hfew

  clear bx hA hX hT hG hk hnon hfew
  go_enter Tryd.func15, Tryd.ntmps15
  go_wp2_with fail
  refine (live4_walk _ HT0.out).mono ?_
  rintro e w1 ⟨rfl, hb1⟩
  have HA1 := Lib.hid (HA0.out.on hb1)
  have HP1 := Lib.hid (HP0.out.on hb1)
  have HG1 := Lib.hid (HG0.out.on hb1)
  have HB1 := Lib.hid (HX0.out.on hb1).b
  clear hb1
  go_wp2_with fail
  refine (few4_three w1 28 _ rfl HA1.out HP1.out HG1.out false HF.out).mono ?_
  rintro e w2 ⟨rfl, hw2⟩
  have HB2 := Lib.hid (show Below w.heap.size w w2 by rw [hw2]; exact HB1.out.trans ((below_one' w1 _).mono HB1.out.size))
  clear hw2
  go_wp2_with fail
  refine (live4_again HTw.out HB2.out).mono ?_
  rintro e w3 ⟨rfl, hb3⟩
  go_wp2
  go_ret
  exact ⟨rfl, hb3⟩
theorem sealbits_walk (key nonce ad ta tb : List UInt8) (hk : key.length = 32) (hnon : nonce.length = 12) (a b g : Option Addr) (n c m d p q : Nat) (w : World) (hA : Txt w a n c ad) (hX : Txt w b m d ta) (hG : Txt w g p q tb) (hT : Two w) :
    Calls Tryd.prog 15 #[.agg (barr key), .agg (barr nonce), .slice a n c, .slice b m d, .slice g p q] w fun e w' => e = .returned (.bool true) ∧ Below w.heap.size w w' := by
  by_cases hfew : fewOf 2000 [ad, ta, tb] = true
  · rcases Nat.lt_or_ge p m with h | h
    · exact sealbits_gt key nonce ad ta tb hk hnon a b g n c m d p q w hA hX hG hT hfew h
    · exact sealbits_le key nonce ad ta tb hk hnon a b g n c m d p q w hA hX hG hT hfew h
  · exact sealbits_out key nonce ad ta tb hk hnon a b g n c m d p q w hA hX hG hT (by simpa using hfew)
end Go.Proofs.YtgbahfggnbpnmaaDoor
