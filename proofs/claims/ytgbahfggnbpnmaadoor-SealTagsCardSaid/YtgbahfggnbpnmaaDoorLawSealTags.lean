import Derived.Test.YtgbahfggnbpnmaaDoorLawSealBack
/-
  The walk of liverylaw04.SealTags.
-/
namespace Go.Proofs.YtgbahfggnbpnmaaDoor
open Go.RowKit
set_option maxRecDepth 100000 in
set_option maxHeartbeats 2000000 in
theorem sealtags_walk (key nonce ad plain tag : List UInt8) (hk : key.length = 32) (hnon : nonce.length = 12) (a b g : Option Addr) (n c m d p q : Nat) (w : World) (hA : Txt w a n c ad) (hX : Txt w b m d plain) (hG : Txt w g p q tag) (hT : Two w) :
    Calls Tryd.prog 14 #[.agg (barr key), .agg (barr nonce), .slice a n c, .slice b m d, .slice g p q] w fun e w' => e = .returned (.bool true) ∧ Below w.heap.size w w' := by
  have bx := Boxed.new w key nonce
  have HX0 := Lib.hid bx
  have HA := Lib.hid (hA.on bx.b)
  have HP := Lib.hid (hX.on bx.b)
  have HG := Lib.hid (hG.on bx.b)
  have HT := Lib.hid (hT.on bx.b)
  have HTw := Lib.hid hT
  have HS1 := Lib.hid (show (Tryd.prog.info? 31).map (·.size) = some (barr key).size by rw [barr_size, hk]; exact size_u8x32)
  have HS2 := Lib.hid (show (Tryd.prog.info? 62).map (·.size) = some (barr nonce).size by rw [barr_size, hnon]; exact size_u8x12)
  have HM := Lib.hid hX.len
  have HKL := Lib.hid hk
  have HNL := Lib.hid hnon
  clear bx hA hX hT hG hk hnon
  by_cases hfew : fewOf 2000 [ad, plain, tag] = true
  · have HF := Lib.hid hfew
    have HAL := Lib.hid (few4_3 hfew).1
    have HPL := Lib.hid (few4_3 hfew).2.1
    have HGL := Lib.hid (few4_3 hfew).2.2
    have hm2 : m ≤ 2000 := by have := HM.out; have := HPL.out; omega
    have f1 : IntKind.i64.wrap ((m : Int) + 32) = (m : Int) + 32 := IntWalk.i64_in _ (by omega)
    clear hfew
    go_enter Tryd.func14, Tryd.ntmps14
    go_wp2_with fail
    refine (live4_walk _ HT.out).mono ?_
    rintro e w1 ⟨rfl, hb1⟩
    have HX1 := Lib.hid (HX0.out.on hb1)
    have HA1 := Lib.hid (HA.out.on hb1)
    have HP1 := Lib.hid (HP.out.on hb1)
    have HG1 := Lib.hid (HG.out.on hb1)
    have HT1 := Lib.hid (HT.out.on hb1)
    clear hb1 HX0 HA HP HT HG
    go_wp2_with fail
    refine (few4_three w1 28 _ rfl HA1.out HP1.out HG1.out true HF.out).mono ?_
    rintro e w2 ⟨rfl, hw2⟩
    have hb2 : Below w1.heap.size w1 w2 := by rw [hw2]; exact below_one' w1 _
    have HX2 := Lib.hid (HX1.out.on hb2)
    have HA2 := Lib.hid (HA1.out.on hb2)
    have HP2 := Lib.hid (HP1.out.on hb2)
    have HG2 := Lib.hid (HG1.out.on hb2)
    have HT2 := Lib.hid (HT1.out.on hb2)
    clear hb2 hw2 HX1 HA1 HP1 HT1 HG1
    go_wp2_with (first | (refine wpList_load_row rfl 31 (.tmp 5) rfl w.heap.size rfl 31 _ _ _ HX2.out.k Tryd.underlying31 rfl HS1.out ?_) | (refine wpList_load_row rfl 62 (.tmp 6) rfl (w.heap.size + 1) rfl 62 _ _ _ HX2.out.n Tryd.underlying62 rfl HS2.out ?_))
    refine (seal_walk key nonce ad plain HKL.out HNL.out a b n c m d w2 HA2.out HP2.out HT2.out (by have := HAL.out; omega) (by have := HPL.out; omega)).mono ?_
    rintro e w3 ⟨a3, n3, c3, rfl, hO, hb3⟩
    obtain ⟨S, hS⟩ : ∃ S, S = sealL key nonce ad plain := ⟨_, rfl⟩
    rw [← hS] at hO
    have hSl : S.length = m + 32 := by rw [hS, sealL_len, HM.out]
    obtain rfl : n3 = m + 32 := by rw [← hSl]; exact hO.len
    have hcap : (m : Int) ≤ (c3 : Int) := by have := hO.txt.fit; omega
    have HSl := Lib.hid hSl
    have HSe := Lib.hid hS
    have TS3 := Lib.hid hO.txt
    have HX3 := Lib.hid (HX2.out.on hb3)
    have HA3 := Lib.hid (HA2.out.on hb3)
    have HG3 := Lib.hid (HG2.out.on hb3)
    have HT3 := Lib.hid (HT2.out.on hb3)
    have e1 : S.take m = coverL (encK key) nonce plain := by rw [HSe.out, HM.out]; exact seal_take key nonce ad plain
    have e2 : S.drop m = tagL (macK key) nonce ad (coverL (encK key) nonce plain) := by rw [HSe.out, HM.out]; exact seal_drop key nonce ad plain
    obtain ⟨C, hC⟩ : ∃ C, C = coverL (encK key) nonce plain := ⟨_, rfl⟩
    obtain ⟨T, hT⟩ : ∃ T, T = tagL (macK key) nonce ad C := ⟨_, rfl⟩
    rw [← hC] at e1 e2
    rw [← hT] at e2
    have HCl := Lib.hid (show C.length = m by rw [hC, coverL_len, HM.out])
    have HTe := Lib.hid hT
    have HE1 := Lib.hid e1
    have HE2 := Lib.hid e2
    have TC3 := Lib.hid (by have h := TS3.out.cut (show m ≤ m + 32 by omega); rw [e1] at h; exact h)
    clear hO hb3 HX2 HA2 HP2 HT2 HG2 hSl hS e1 e2 hC hT
    go_wp2_with fail
    refine (join2 w3 28 _ rfl TC3.out HG3.out (by have := HCl.out; have := HGL.out; omega)).mono ?_
    rintro e w4 ⟨a4, n4, c4, rfl, hO, hb4⟩
    have HO4 := Lib.hid hO.txt
    have TS4 := Lib.hid (TS3.out.on hb4)
    have HX4 := Lib.hid (HX3.out.on hb4)
    have HA4 := Lib.hid (HA3.out.on hb4)
    have HG4 := Lib.hid (HG3.out.on hb4)
    have HT4 := Lib.hid (HT3.out.on hb4)
    clear hO hb4 HX3 HA3 HG3 HT3 TS3 TC3
    by_cases ht : p = 32
    · subst ht
      obtain rfl : n4 = m + 32 := by have h1 := HO4.out.len; have h2 := HCl.out; have h3 := HG4.out.len; rw [List.length_append] at h1; omega
      go_wp2_with fail
      refine (equal_walk _ _ _ _ _ _ (C ++ tag) S HO4.out.len TS4.out.len w4 HO4.out.rd TS4.out.rd).mono ?_
      rintro e w5 ⟨he, hw⟩
      subst hw
      have hSS : S = C ++ T := by rw [← List.take_append_drop m S, HE1.out, HE2.out]
      by_cases hq : tag = T
      · rw [decide_eq_true (show C ++ tag = S by rw [hSS, hq])] at he
        subst he
        obtain ⟨AS, CS, hs, hTd⟩ := slice_l TS4.out (show m ≤ m + 32 by omega)
        rw [Nat.add_sub_cancel_left] at hs hTd
        rw [HE2.out, ← hq] at hTd
        have HTd := Lib.hid hTd
        clear hTd hSS hq
        go_wp2_with fail
        refine (equal_q _ _ _ _ _ _ tag w4 HG4.out HTd.out).mono ?_
        rintro e w' ⟨rfl, hw⟩
        have HB := Lib.hid (show Below w.heap.size w w' by rw [hw]; exact HX4.out.b)
        clear hw
        go_wp2
        go_ret
        exact ⟨rfl, HB.out⟩
      · rw [decide_eq_false (show ¬ C ++ tag = S by rw [hSS]; intro h; exact hq (List.append_cancel_left h))] at he
        subst he
        have HQ := Lib.hid hq
        clear hSS hq
        go_wp2_with (first | (refine wpList_load_row rfl 31 (.tmp 5) rfl w.heap.size rfl 31 _ _ _ HX4.out.k Tryd.underlying31 rfl HS1.out ?_) | (refine wpList_load_row rfl 62 (.tmp 6) rfl (w.heap.size + 1) rfl 62 _ _ _ HX4.out.n Tryd.underlying62 rfl HS2.out ?_))
        refine (open_walk key nonce ad (C ++ tag) HKL.out HNL.out a a4 n c (m + 32) c4 m rfl w4 HA4.out HO4.out HT4.out (by have := HAL.out; omega) (by have := HCl.out; have := HGL.out; rw [List.length_append]; omega)).mono ?_
        rintro e w5 ⟨hb5, hor⟩
        have e1 : (C ++ tag).take m = C := by rw [List.take_append_of_le_length (by rw [HCl.out]; omega), List.take_of_length_le (by rw [HCl.out]; omega)]
        have e2 : (C ++ tag).drop m = tag := by rw [List.drop_append, List.drop_of_length_le (by rw [HCl.out]; omega), HCl.out, Nat.sub_self]; rfl
        rw [e1, e2, ← HTe.out] at hor
        obtain rfl : e = .returned (.tuple #[.slice none 0 0, .int .i64 40]) := by
          rcases hor with h | h
          · exact absurd h.1.symm HQ.out
          · exact h.2
        have HB5 := Lib.hid (HX4.out.on hb5).b
        clear hor hb5 e1 e2
        go_wp2
        go_ret
        exact ⟨rfl, HB5.out⟩
    · have hne : ¬ (p : Int) = 32 := by omega
      have HB4 := Lib.hid HX4.out.b
      go_wp2
      go_ret
      exact ⟨rfl, HB4.out⟩
  · have HF := Lib.hid (show fewOf 2000 [ad, plain, tag] = false by simpa using hfew)
    clear hfew
    go_enter Tryd.func14, Tryd.ntmps14
    go_wp2_with fail
    refine (live4_walk _ HT.out).mono ?_
    rintro e w1 ⟨rfl, hb1⟩
    have HA1 := Lib.hid (HA.out.on hb1)
    have HP1 := Lib.hid (HP.out.on hb1)
    have HG1 := Lib.hid (HG.out.on hb1)
    have HB1 := Lib.hid (HX0.out.on hb1).b
    clear hb1
    go_wp2_with fail
    refine (few4_three w1 28 _ rfl HA1.out HP1.out HG1.out false HF.out).mono ?_
    rintro e w2 ⟨rfl, hw2⟩
    have HB2 := Lib.hid (show Below w.heap.size w w2 by rw [hw2]; exact HB1.out.trans ((below_one' w1 _).mono HB1.out.size))
    clear hw2
    go_wp2_with fail
    refine (live4_again HTw.out HB2.out).mono ?_
    rintro e w3 ⟨rfl, hb3⟩
    go_wp2
    go_ret
    exact ⟨rfl, hb3⟩
end Go.Proofs.YtgbahfggnbpnmaaDoor
