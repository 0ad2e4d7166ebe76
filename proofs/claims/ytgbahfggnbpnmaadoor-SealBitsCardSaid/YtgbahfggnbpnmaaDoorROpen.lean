import Derived.Test.YtgbahfggnbpnmaaDoorRSeal
import Derived.Test.YtgbahfggnbpnmaaDoorXor
import Derived.Test.YtgbahfggnbpnmaaDoorOpenW
/-
  The reference's Seal and Open (liveryref04).
-/
namespace Go.Proofs.YtgbahfggnbpnmaaDoor
open Go.RowKit
set_option maxRecDepth 100000 in
set_option maxHeartbeats 1000000 in
theorem rseal_walk (key nonce ad plain : List UInt8) (hk : key.length = 32) (hnon : nonce.length = 12) (x0 x1 a b : Option Addr) (n0 k0 n1 k1 n c m d : Nat) (w : World) (hK : Txt w x0 n0 k0 key) (hN : Txt w x1 n1 k1 nonce) (hA : Txt w a n c ad) (hX : Txt w b m d plain) (hl : ad.length ≤ 1048000) (hl2 : plain.length ≤ 1048000) :
    Calls Tryd.prog 48 #[.slice x0 n0 k0, .slice x1 n1 k1, .slice a n c, .slice b m d] w fun e w' => ∃ a' n' c', e = .returned (.slice a' n' c') ∧ Txt w' a' n' c' (sealL key nonce ad plain) ∧ Below w.heap.size w w' := by
  have HK0 := Lib.hid hK
  have HN0 := Lib.hid hN
  have HA0 := Lib.hid hA
  have HX0 := Lib.hid hX
  have HKL := Lib.hid hk
  have HNL := Lib.hid hnon
  have HM := Lib.hid hX.len
  have HAL := Lib.hid hl
  have HPL := Lib.hid hl2
  clear hK hN hA hX hk hnon hl hl2
  go_enter Tryd.func48, Tryd.ntmps48
  go_wp2_with fail
  refine (rkeys_walk key HKL.out _ _ _ w HK0.out).mono ?_
  rintro e w1 ⟨a1, c1, a2, c2, rfl, hE, hM, hb1⟩
  have HE1 := Lib.hid hE
  have HM1 := Lib.hid hM
  have HN1 := Lib.hid (HN0.out.on hb1)
  have HA1 := Lib.hid (HA0.out.on hb1)
  have HX1 := Lib.hid (HX0.out.on hb1)
  have HB1 := Lib.hid hb1
  clear hE hM hb1 HK0 HN0 HA0 HX0
  go_wp2_with fail
  refine (rstream_walk (encK key) nonce HNL.out _ _ _ _ _ _ m (by have := HM.out; have := HPL.out; omega) w1 HE1.out HN1.out (by rw [encK_len]; omega)).mono ?_
  rintro e w2 ⟨a3, c3, rfl, hS, hb2⟩
  have HS2 := Lib.hid hS
  have HM2 := Lib.hid (HM1.out.on hb2)
  have HN2 := Lib.hid (HN1.out.on hb2)
  have HA2 := Lib.hid (HA1.out.on hb2)
  have HX2 := Lib.hid (HX1.out.on hb2)
  have HB2 := Lib.hid (HB1.out.trans (hb2.mono HB1.out.size))
  clear hS hb2 HE1 HM1 HN1 HA1 HX1 HB1
  go_wp2_with fail
  refine (xor_walk plain (streamL (encK key) nonce m) _ _ _ _ _ _ rfl (by have := HM.out; have := HPL.out; omega) w2 HX2.out HS2.out).mono ?_
  rintro e w3 ⟨a4, c4, rfl, hT, hb3⟩
  have ec : xorL plain (streamL (encK key) nonce m) = coverL (encK key) nonce plain := by rw [xorL_comm, HM.out]; rfl
  rw [ec] at hT
  obtain ⟨C, hC⟩ : ∃ C, C = coverL (encK key) nonce plain := ⟨_, rfl⟩
  rw [← hC] at hT
  have HC := Lib.hid hC
  have HCl := Lib.hid (show C.length = m by rw [hC, coverL_len, HM.out])
  have HT3 := Lib.hid hT
  have HM3 := Lib.hid (HM2.out.on hb3)
  have HN3 := Lib.hid (HN2.out.on hb3)
  have HA3 := Lib.hid (HA2.out.on hb3)
  have HB3 := Lib.hid (HB2.out.trans (hb3.mono HB2.out.size))
  clear hC hT hb3 ec HS2 HM2 HN2 HA2 HX2 HB2
  go_wp2_with fail
  refine (rtag_walk (macK key) nonce ad C HNL.out _ _ _ _ _ _ _ _ _ _ _ _ w3 HM3.out HN3.out HA3.out HT3.out (by rw [macK_len]; omega) (by have := HAL.out; omega) (by have := HCl.out; have := HM.out; have := HPL.out; omega)).mono ?_
  rintro e w4 ⟨a5, c5, rfl, hT5, hb4⟩
  have HT4 := Lib.hid (HT3.out.on hb4)
  have HG4 := Lib.hid hT5
  have HB4 := Lib.hid (HB3.out.trans (hb4.mono HB3.out.size))
  clear hT5 hb4 HM3 HN3 HA3 HB3 HT3
  go_wp2_with fail
  refine (join2 w4 28 _ rfl HT4.out HG4.out (by rw [tagL_len]; have := HCl.out; have := HM.out; have := HPL.out; omega)).mono ?_
  rintro e w5 ⟨a6, n6, c6, rfl, hO, hb5⟩
  have HO5 := Lib.hid hO.txt
  have HB5 := Lib.hid (HB4.out.trans (hb5.mono HB4.out.size))
  clear hO hb5
  go_wp2
  go_ret
  refine ⟨a6, n6, c6, rfl, ?_, HB5.out⟩
  have h := HO5.out
  rw [HC.out] at h
  exact h
set_option maxRecDepth 100000 in
theorem ropen_short (v0 v1 v2 : Value) (b : Option Addr) (m d : Nat) (hm : m < 32) (w : World) :
    Calls Tryd.prog 50 #[v0, v1, v2, .slice b m d] w fun e w' => e = .returned (.tuple #[.slice none 0 0, .int .i64 8]) ∧ w = w' := by
  have h1 : (m : Int) < 32 := by omega
  go_enter Tryd.func50, Tryd.ntmps50
  go_wp2
  go_ret2
  exact ⟨rfl, rfl⟩
set_option maxRecDepth 100000 in
set_option maxHeartbeats 1000000 in
theorem ropen_walk (key nonce ad s : List UInt8) (hk : key.length = 32) (hnon : nonce.length = 12) (x0 x1 a b : Option Addr) (n0 k0 n1 k1 n c m d M : Nat) (hM : m = M + 32) (w : World) (hK : Txt w x0 n0 k0 key) (hN : Txt w x1 n1 k1 nonce) (hA : Txt w a n c ad) (hX : Txt w b m d s) (hl : ad.length ≤ 1048000) (hl2 : s.length ≤ 1048000) :
    Calls Tryd.prog 50 #[.slice x0 n0 k0, .slice x1 n1 k1, .slice a n c, .slice b m d] w fun e w' => Below w.heap.size w w' ∧ ((tagL (macK key) nonce ad (s.take M) = s.drop M ∧ ∃ a' c', e = .returned (.tuple #[.slice a' M c', .int .i64 0]) ∧ Txt w' a' M c' (coverL (encK key) nonce (s.take M))) ∨ (tagL (macK key) nonce ad (s.take M) ≠ s.drop M ∧ e = .returned (.tuple #[.slice none 0 0, .int .i64 40]))) := by
  have hle : M ≤ m := by omega
  have s1 := slice_h hX hle
  obtain ⟨AT, CT, s2, hTag⟩ := slice_l hX hle
  have e32 : m - M = 32 := by omega
  rw [e32] at s2 hTag
  have HG0 := Lib.hid hTag
  have HX0 := Lib.hid (hX.cut hle)
  have HK0 := Lib.hid hK
  have HN0 := Lib.hid hN
  have HA0 := Lib.hid hA
  have HKL := Lib.hid hk
  have HNL := Lib.hid hnon
  have hlen := hX.len
  have HML := Lib.hid (show (s.take M).length = M by rw [List.length_take]; omega)
  have HAL := Lib.hid hl
  have HM0 := Lib.hid (show M ≤ 1048000 by omega)
  have hcap : (M : Int) ≤ (d : Int) := by have := hX.fit; omega
  have g1 : ¬ (m : Int) < 32 := by omega
  have f1 : IntKind.i64.wrap ((m : Int) - 32) = (M : Int) := by rw [show (m : Int) - 32 = (M : Int) by omega]; exact IntWalk.i64_in _ (by omega)
  obtain ⟨X, hXe⟩ : ∃ X, X = s.take M := ⟨_, rfl⟩
  obtain ⟨G, hGe⟩ : ∃ G, G = s.drop M := ⟨_, rfl⟩
  rw [← hXe] at HX0 HML
  rw [← hGe] at HG0
  rw [← hXe, ← hGe]
  clear hK hN hA hX hk hnon hl hl2 hlen hle e32 hTag hXe hGe hM
  go_enter Tryd.func50, Tryd.ntmps50
  go_wp2_with fail
  refine (rkeys_walk key HKL.out _ _ _ w HK0.out).mono ?_
  rintro e w2 ⟨a1, c1, a2, c2, rfl, hE, hM, hb1⟩
  have HE2 := Lib.hid hE
  have HM2 := Lib.hid hM
  have HN2 := Lib.hid (HN0.out.on hb1)
  have HA2 := Lib.hid (HA0.out.on hb1)
  have HX2 := Lib.hid (HX0.out.on hb1)
  have HG2 := Lib.hid (HG0.out.on hb1)
  have HB2 := Lib.hid hb1
  clear hE hM hb1 HK0 HN0 HA0 HX0 HG0
  by_cases htg : tagL (macK key) nonce ad X = G
  · have HTG := Lib.hid htg
    clear htg
    go_wp2
    refine wp_region_held_drew (S := fun w' => Below w2.heap.size w2 w') (by kernel_rfl) (Below.refl _ _).drew (fun _ => ?_)
    have HS := Lib.hid ((Below.refl w2.heap.size w2).drew)
    have HE2 := Lib.hid (HE2.out.on (HS.out))
    have HM2 := Lib.hid (HM2.out.on (HS.out))
    have HN2 := Lib.hid (HN2.out.on (HS.out))
    have HA2 := Lib.hid (HA2.out.on (HS.out))
    have HX2 := Lib.hid (HX2.out.on (HS.out))
    have HG2 := Lib.hid (HG2.out.on (HS.out))
    generalize World.drew w2 = v0 at *
    refine wpAnyH_take (i := 0) (oi := ⟨some 26, .move (.tmp 11), 28, _, _, none⟩) (v := .slice a2 32 c2) rfl (by kernel_rfl) (by kernel_rfl) (by kernel_rfl) (fun _ _ _ h => h) (Or.inl ⟨by rfl, fun _ _ => by go_simp⟩) HS.out ?_
    refine wpAnyH_take (i := 1) (oi := ⟨some 27, .move (.tmp 1), 28, _, _, none⟩) (v := .slice x1 n1 k1) rfl (by kernel_rfl) (by kernel_rfl) (by kernel_rfl) (fun _ _ _ h => h) (Or.inl ⟨by rfl, fun _ _ => by go_simp⟩) HS.out ?_
    refine wpAnyH_take (i := 2) (oi := ⟨some 28, .move (.tmp 2), 28, _, _, none⟩) (v := .slice a n c) rfl (by kernel_rfl) (by kernel_rfl) (by kernel_rfl) (fun _ _ _ h => h) (Or.inl ⟨by rfl, fun _ _ => by go_simp⟩) HS.out ?_
    refine wpAnyH_take (i := 3) (oi := ⟨some 29, .move (.tmp 12), 28, _, _, none⟩) (v := .slice b M d) rfl (by kernel_rfl) (by kernel_rfl) (by kernel_rfl) (fun _ _ _ h => h) (Or.inl ⟨by rfl, fun _ _ => by go_simp⟩) HS.out ?_
    refine wpAnyH_take (i := 5) (oi := ⟨some 31, .move (.tmp 3), 28, _, _, none⟩) (v := .slice b m d) rfl (by kernel_rfl) (by kernel_rfl) (by kernel_rfl) (fun _ _ _ h => h) (Or.inl ⟨by rfl, fun _ _ => by go_simp⟩) HS.out ?_
    refine wpAnyH_take (i := 6) (oi := ⟨some 32, .move (.tmp 12), 28, _, _, none⟩) (v := .slice b M d) rfl (by kernel_rfl) (by kernel_rfl) (by kernel_rfl) (fun _ _ _ h => h) (Or.inl ⟨by rfl, fun _ _ => by go_simp⟩) HS.out ?_
    refine wpAnyH_take (i := 7) (oi := ⟨some 33, .call { callee := .builtin .len, args := #[.tmp 32], argTypes := #[28] }, 3, _, _, none⟩) (v := .int .i64 (M : Nat)) rfl (by kernel_rfl) (by kernel_rfl) (by kernel_rfl) (fun _ _ _ h => h) (Or.inl ⟨by rfl, fun _ _ => by go_simp⟩) HS.out ?_
    refine wpAnyH_take (i := 8) (oi := ⟨some 34, .slice 28 (.tmp 31) (some (.tmp 33)) none none, 28, _, _, none⟩) (v := .slice AT 32 CT) rfl (by kernel_rfl) (by kernel_rfl) (by kernel_rfl) (fun _ _ _ h => h) (Or.inl ⟨by rfl, fun _ _ => by go_simp⟩) HS.out ?_
    try simp only [Act.put, List.setIfInBounds_toArray, List.set_cons_succ, List.set_cons_zero]
    refine wpAnyH_ready (rs := [4]) (by kernel_rfl) (by simp) ?_
    refine AllReadyH.cons (o := ⟨some 30, .call { callee := .value (.func 57), args := #[.tmp 26, .tmp 27, .tmp 28, .tmp 29], argTypes := #[28, 28, 28, 28] }, 28, _, _, none⟩) rfl (fun K hK => ?_) AllReadyH.nil
    go_simp
    refine (rtag_walk (macK key) nonce ad X HNL.out _ _ _ _ _ _ _ _ _ _ _ _ v0 HM2.out HN2.out HA2.out HX2.out (by rw [macK_len]; omega) (by have := HAL.out; omega) (by have := HML.out; have := HM0.out; omega)).mono ?_
    rintro e v1 ⟨at5, ct5, rfl, hT5, hb⟩
    have HE2 := Lib.hid (HE2.out.on hb)
    have HM2 := Lib.hid (HM2.out.on hb)
    have HN2 := Lib.hid (HN2.out.on hb)
    have HA2 := Lib.hid (HA2.out.on hb)
    have HX2 := Lib.hid (HX2.out.on hb)
    have HG2 := Lib.hid (HG2.out.on hb)
    have HS := Lib.hid (HS.out.trans (hb.mono HS.out.size))
    have TT := Lib.hid (hT5)
    clear hb hT5
    refine hK _ _ HS.out (fun _ => ?_)
    clear hK K
    try simp only [Act.put, List.setIfInBounds_toArray, List.set_cons_succ, List.set_cons_zero]
    refine wpAnyH_ready (rs := [9]) (by kernel_rfl) (by simp) ?_
    refine AllReadyH.cons (o := ⟨some 35, .call { callee := .value (.func 38), args := #[.tmp 30, .tmp 34], argTypes := #[28, 28] }, 4, _, _, none⟩) rfl (fun K hK => ?_) AllReadyH.nil
    go_simp
    refine (equal_walk _ _ _ _ _ _ (tagL (macK key) nonce ad X) G TT.out.len HG2.out.len v1 TT.out.rd HG2.out.rd).mono ?_
    rintro e w' ⟨he, rfl⟩
    rw [decide_eq_true HTG.out] at he
    subst he
    refine hK _ _ HS.out (fun _ => ?_)
    clear hK K
    refine wpAnyH_take (i := 10) (oi := ⟨some 36, .unOp .not 4 (.tmp 35), 4, _, _, none⟩) (v := .bool false) rfl (by kernel_rfl) (by kernel_rfl) (by kernel_rfl) (fun _ _ _ h => h) (Or.inl ⟨by rfl, fun _ _ => by go_simp⟩) HS.out ?_
    try simp only [Act.put, List.setIfInBounds_toArray, List.set_cons_succ, List.set_cons_zero]
    refine wpAnyH_done (by kernel_rfl) ?_ _
    have HB5 := Lib.hid (HB2.out.trans (HS.out.mono HB2.out.size))
    go_wp2_with fail
    refine (rstream_walk (encK key) nonce HNL.out _ _ _ _ _ _ M (by have := HM0.out; omega) v1 HE2.out HN2.out (by rw [encK_len]; omega)).mono ?_
    rintro e w6 ⟨a6, c6, rfl, hT6, hb6⟩
    have TS6 := Lib.hid hT6
    have HX6 := Lib.hid (HX2.out.on hb6)
    have HB6 := Lib.hid (HB5.out.trans (hb6.mono HB5.out.size))
    clear hT6 hb6
    go_wp2_with fail
    refine (xor_walk X (streamL (encK key) nonce M) _ _ _ _ _ _ rfl (by have := HM0.out; omega) w6 HX6.out TS6.out).mono ?_
    rintro e w7 ⟨a7, c7, rfl, hT7, hb7⟩
    have T7 := Lib.hid hT7
    have HB7 := Lib.hid (HB6.out.trans (hb7.mono HB6.out.size))
    clear hT7 hb7
    go_wp2
    go_ret2
    refine ⟨HB7.out, .inl ⟨HTG.out, a7, c7, rfl, ?_⟩⟩
    have h := T7.out
    rw [xorL_comm] at h
    unfold coverL
    rw [HML.out]
    exact h
  · have HTG := Lib.hid htg
    clear htg
    go_wp2
    refine wp_region_held_drew (S := fun w' => Below w2.heap.size w2 w') (by kernel_rfl) (Below.refl _ _).drew (fun _ => ?_)
    have HS := Lib.hid ((Below.refl w2.heap.size w2).drew)
    have HE2 := Lib.hid (HE2.out.on (HS.out))
    have HM2 := Lib.hid (HM2.out.on (HS.out))
    have HN2 := Lib.hid (HN2.out.on (HS.out))
    have HA2 := Lib.hid (HA2.out.on (HS.out))
    have HX2 := Lib.hid (HX2.out.on (HS.out))
    have HG2 := Lib.hid (HG2.out.on (HS.out))
    generalize World.drew w2 = v0 at *
    refine wpAnyH_take (i := 0) (oi := ⟨some 26, .move (.tmp 11), 28, _, _, none⟩) (v := .slice a2 32 c2) rfl (by kernel_rfl) (by kernel_rfl) (by kernel_rfl) (fun _ _ _ h => h) (Or.inl ⟨by rfl, fun _ _ => by go_simp⟩) HS.out ?_
    refine wpAnyH_take (i := 1) (oi := ⟨some 27, .move (.tmp 1), 28, _, _, none⟩) (v := .slice x1 n1 k1) rfl (by kernel_rfl) (by kernel_rfl) (by kernel_rfl) (fun _ _ _ h => h) (Or.inl ⟨by rfl, fun _ _ => by go_simp⟩) HS.out ?_
    refine wpAnyH_take (i := 2) (oi := ⟨some 28, .move (.tmp 2), 28, _, _, none⟩) (v := .slice a n c) rfl (by kernel_rfl) (by kernel_rfl) (by kernel_rfl) (fun _ _ _ h => h) (Or.inl ⟨by rfl, fun _ _ => by go_simp⟩) HS.out ?_
    refine wpAnyH_take (i := 3) (oi := ⟨some 29, .move (.tmp 12), 28, _, _, none⟩) (v := .slice b M d) rfl (by kernel_rfl) (by kernel_rfl) (by kernel_rfl) (fun _ _ _ h => h) (Or.inl ⟨by rfl, fun _ _ => by go_simp⟩) HS.out ?_
    refine wpAnyH_take (i := 5) (oi := ⟨some 31, .move (.tmp 3), 28, _, _, none⟩) (v := .slice b m d) rfl (by kernel_rfl) (by kernel_rfl) (by kernel_rfl) (fun _ _ _ h => h) (Or.inl ⟨by rfl, fun _ _ => by go_simp⟩) HS.out ?_
    refine wpAnyH_take (i := 6) (oi := ⟨some 32, .move (.tmp 12), 28, _, _, none⟩) (v := .slice b M d) rfl (by kernel_rfl) (by kernel_rfl) (by kernel_rfl) (fun _ _ _ h => h) (Or.inl ⟨by rfl, fun _ _ => by go_simp⟩) HS.out ?_
    refine wpAnyH_take (i := 7) (oi := ⟨some 33, .call { callee := .builtin .len, args := #[.tmp 32], argTypes := #[28] }, 3, _, _, none⟩) (v := .int .i64 (M : Nat)) rfl (by kernel_rfl) (by kernel_rfl) (by kernel_rfl) (fun _ _ _ h => h) (Or.inl ⟨by rfl, fun _ _ => by go_simp⟩) HS.out ?_
    refine wpAnyH_take (i := 8) (oi := ⟨some 34, .slice 28 (.tmp 31) (some (.tmp 33)) none none, 28, _, _, none⟩) (v := .slice AT 32 CT) rfl (by kernel_rfl) (by kernel_rfl) (by kernel_rfl) (fun _ _ _ h => h) (Or.inl ⟨by rfl, fun _ _ => by go_simp⟩) HS.out ?_
    try simp only [Act.put, List.setIfInBounds_toArray, List.set_cons_succ, List.set_cons_zero]
    refine wpAnyH_ready (rs := [4]) (by kernel_rfl) (by simp) ?_
    refine AllReadyH.cons (o := ⟨some 30, .call { callee := .value (.func 57), args := #[.tmp 26, .tmp 27, .tmp 28, .tmp 29], argTypes := #[28, 28, 28, 28] }, 28, _, _, none⟩) rfl (fun K hK => ?_) AllReadyH.nil
    go_simp
    refine (rtag_walk (macK key) nonce ad X HNL.out _ _ _ _ _ _ _ _ _ _ _ _ v0 HM2.out HN2.out HA2.out HX2.out (by rw [macK_len]; omega) (by have := HAL.out; omega) (by have := HML.out; have := HM0.out; omega)).mono ?_
    rintro e v1 ⟨at5, ct5, rfl, hT5, hb⟩
    have HE2 := Lib.hid (HE2.out.on hb)
    have HM2 := Lib.hid (HM2.out.on hb)
    have HN2 := Lib.hid (HN2.out.on hb)
    have HA2 := Lib.hid (HA2.out.on hb)
    have HX2 := Lib.hid (HX2.out.on hb)
    have HG2 := Lib.hid (HG2.out.on hb)
    have HS := Lib.hid (HS.out.trans (hb.mono HS.out.size))
    have TT := Lib.hid (hT5)
    clear hb hT5
    refine hK _ _ HS.out (fun _ => ?_)
    clear hK K
    try simp only [Act.put, List.setIfInBounds_toArray, List.set_cons_succ, List.set_cons_zero]
    refine wpAnyH_ready (rs := [9]) (by kernel_rfl) (by simp) ?_
    refine AllReadyH.cons (o := ⟨some 35, .call { callee := .value (.func 38), args := #[.tmp 30, .tmp 34], argTypes := #[28, 28] }, 4, _, _, none⟩) rfl (fun K hK => ?_) AllReadyH.nil
    go_simp
    refine (equal_walk _ _ _ _ _ _ (tagL (macK key) nonce ad X) G TT.out.len HG2.out.len v1 TT.out.rd HG2.out.rd).mono ?_
    rintro e w' ⟨he, rfl⟩
    rw [decide_eq_false HTG.out] at he
    subst he
    refine hK _ _ HS.out (fun _ => ?_)
    clear hK K
    refine wpAnyH_take (i := 10) (oi := ⟨some 36, .unOp .not 4 (.tmp 35), 4, _, _, none⟩) (v := .bool true) rfl (by kernel_rfl) (by kernel_rfl) (by kernel_rfl) (fun _ _ _ h => h) (Or.inl ⟨by rfl, fun _ _ => by go_simp⟩) HS.out ?_
    try simp only [Act.put, List.setIfInBounds_toArray, List.set_cons_succ, List.set_cons_zero]
    refine wpAnyH_done (by kernel_rfl) ?_ _
    have HB5 := Lib.hid (HB2.out.trans (HS.out.mono HB2.out.size))
    go_wp2
    go_ret2
    exact ⟨HB5.out, .inr ⟨HTG.out, rfl⟩⟩
end Go.Proofs.YtgbahfggnbpnmaaDoor
