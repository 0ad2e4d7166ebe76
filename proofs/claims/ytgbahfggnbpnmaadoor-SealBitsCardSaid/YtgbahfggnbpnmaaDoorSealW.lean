import Derived.Test.YtgbahfggnbpnmaaDoorCover
/-
  seal.Seal.
-/
namespace Go.Proofs.YtgbahfggnbpnmaaDoor
open Go.RowKit
set_option maxRecDepth 100000 in
set_option maxHeartbeats 1000000 in
theorem seal_walk (key nonce ad plain : List UInt8) (hk : key.length = 32) (hnon : nonce.length = 12) (a b : Option Addr) (n c m d : Nat) (w : World) (hA : Txt w a n c ad) (hX : Txt w b m d plain) (hT : Two w) (hl : ad.length ≤ 1048576) (hl2 : plain.length ≤ 1048576) :
    Calls Tryd.prog 47 #[.agg (barr key), .agg (barr nonce), .slice a n c, .slice b m d] w fun e w' => ∃ a' n' c', e = .returned (.slice a' n' c') ∧ OwnB w' w.heap.size (.slice a' n' c') (sealL key nonce ad plain) ∧ Below w.heap.size w w' := by
  obtain ⟨q0, qb⟩ := new1 w (barr key) 31
  obtain ⟨q1, qb1⟩ := new1 (w.alloc (.cells (barr key) 31)) (barr nonce) 62
  have hsz : (w.alloc (.cells (barr key) 31)).heap.size = w.heap.size + 1 := by simp
  rw [hsz] at q1
  have HB0 := Lib.hid (qb.trans (qb1.mono qb.size))
  have HK0 := Lib.hid (q0.on qb1)
  have HN0 := Lib.hid q1
  have HA0 := Lib.hid (hA.on HB0.out)
  have HX0 := Lib.hid (hX.on HB0.out)
  have HT0 := Lib.hid (hT.on HB0.out)
  have HS1 := Lib.hid (show (Tryd.prog.info? 31).map (·.size) = some (barr key).size by rw [barr_size, hk]; exact size_u8x32)
  have HS2 := Lib.hid (show (Tryd.prog.info? 62).map (·.size) = some (barr nonce).size by rw [barr_size, hnon]; exact size_u8x12)
  have HKL := Lib.hid hk
  have HNL := Lib.hid hnon
  have HM := Lib.hid hX.len
  have HAL := Lib.hid hl
  have HXL := Lib.hid hl2
  clear q0 qb q1 qb1 hsz hA hX hT hk hnon hl hl2
  go_enter Tryd.func47, Tryd.ntmps47
  go_wp2_with (refine wpList_load_row rfl 31 (.tmp 4) rfl w.heap.size rfl 31 _ _ _ HK0.out Tryd.underlying31 rfl HS1.out ?_)
  refine (keys_walk key HKL.out _ HT0.out).mono ?_
  rintro e w1 ⟨a1, c1, a2, c2, rfl, hE, hM, hb1⟩
  have HE1 := Lib.hid hE
  have HM1 := Lib.hid hM
  have HN1 := Lib.hid (HN0.out.on hb1)
  have HA1 := Lib.hid (HA0.out.on hb1)
  have HX1 := Lib.hid (HX0.out.on hb1)
  have HT1 := Lib.hid (HT0.out.on hb1)
  have HB1 := Lib.hid (HB0.out.trans (hb1.mono HB0.out.size))
  clear hE hM hb1 HK0 HN0 HA0 HX0 HT0 HB0
  go_wp2_with (refine wpList_load_row rfl 62 (.tmp 5) rfl (w.heap.size + 1) rfl 62 _ _ _ HN1.out Tryd.underlying62 rfl HS2.out ?_)
  refine (cover_walk (encK key) nonce plain HNL.out a1 b 32 c1 m d (by have := HM.out; have := HXL.out; omega) w1 HE1.out HX1.out HT1.out (by rw [encK_len]; omega)).mono ?_
  rintro e w2 ⟨g2, rfl, hg2, hC, hb2⟩
  have HO2 := Lib.hid (by have h := OwnB.of_blk hC (Nat.le_trans HB1.out.size hg2) (by rw [coverL_len]; have := HXL.out; unfold maxLen; omega); rw [coverL_len, ← HM.out] at h; exact h)
  have HM2 := Lib.hid (HM1.out.on hb2)
  have HN2 := Lib.hid (HN1.out.on hb2)
  have HA2 := Lib.hid (HA1.out.on hb2)
  have HT2 := Lib.hid (HT1.out.on hb2)
  have HB2 := Lib.hid (HB1.out.trans (hb2.mono HB1.out.size))
  clear hg2 hC hb2 HE1 HM1 HN1 HA1 HX1 HT1 HB1
  obtain ⟨C, hC⟩ : ∃ C, C = coverL (encK key) nonce plain := ⟨_, rfl⟩
  rw [← hC] at HO2
  have HCL := Lib.hid (show C.length = plain.length by rw [hC, coverL_len])
  have HC := Lib.hid hC
  clear hC
  go_wp2_with (refine wpList_load_row rfl 62 (.tmp 5) rfl (w.heap.size + 1) rfl 62 _ _ _ HN2.out Tryd.underlying62 rfl HS2.out ?_)
  refine (tag_walk (macK key) nonce ad C HNL.out a2 a (some ⟨g2, 0, none⟩) 32 c2 n c m m w2 HM2.out HA2.out HO2.out.txt HT2.out (by rw [macK_len]; omega) (by have := HAL.out; omega) (by have := HCL.out; have := HXL.out; omega)).mono ?_
  rintro e w3 ⟨he, hb3⟩
  obtain ⟨T, hT⟩ : ∃ T, T = tagL (macK key) nonce ad C := ⟨_, rfl⟩
  rw [← hT] at he
  subst he
  have HTL := Lib.hid (show T.length = 32 by rw [hT, tagL_len])
  have HTE := Lib.hid hT
  have HO3 := Lib.hid (HO2.out.on hb3)
  have HB3 := Lib.hid (HB2.out.trans (hb3.mono HB2.out.size))
  clear hT hb3 HO2 HM2 HN2 HA2 HT2 HB2
  go_wp2_with (first | (refine wpList_store_abs rfl 31 (.tmp 12) (.tmp 26) rfl w3.heap.size (barr T) (by rfl) (by rfl) 31 _ (Blk.new w3 _ _) (by rw [barr_size, HTL.out]; exact size_u8x32) (by rw [barr_size, HTL.out]; rfl) (barr_one_all _) ?_; intro W4 hW4 p4; have hb4 := hW4.below (below_one' w3 _) (Nat.le_refl _); have HO4 := Lib.hid (HO3.out.on hb4); have HB4 := Lib.hid (HB3.out.trans (hb4.mono HB3.out.size)); have TT := Lib.hid (out32 p4 HTL.out (Below.refl _ _)); clear hW4 p4 hb4) | (refine wpList_append_txt rfl (.tmp 27) (.tmp 28) rfl w.heap.size _ C rfl HO4.out _ 32 32 T rfl TT.out.len TT.out.rd (by have := HCL.out; have := HTL.out; have := HXL.out; omega) HB4.out.size ?_; intro a5 n5 c5 w5 hO5 hg5; have HB5 := Lib.hid (below_own HB4.out HO4.out HB4.out.size hg5); have HO5 := Lib.hid hO5; clear hO5 hg5))
  go_ret
  refine ⟨a5, n5, c5, rfl, ?_, HB5.out⟩
  have e : sealL key nonce ad plain = C ++ T := by rw [HTE.out, HC.out]; rfl
  rw [e]; exact HO5.out
end Go.Proofs.YtgbahfggnbpnmaaDoor
