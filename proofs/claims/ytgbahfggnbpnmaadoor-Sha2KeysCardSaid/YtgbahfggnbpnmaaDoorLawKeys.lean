import Derived.Test.YtgbahfggnbpnmaaDoorLawBegins
/-
  The walk of liverylaw02.Sha2Keys.
-/
namespace Go.Proofs.YtgbahfggnbpnmaaDoor
open Go.RowKit
set_option maxRecDepth 100000 in
set_option maxHeartbeats 1000000 in
theorem sha2keys_walk (key : List UInt8) (a : Option Addr) (n c : Nat) (ls : List (List UInt8)) (m d : Nat) (hm : m = ls.length) (pa : Option Addr) (q : Int) (w : World) (hK : Txt w a n c key) (hP : Parts w (· < w.heap.size) pa ls) (hT : Two w) (hls : ls.length ≤ 9223372036854775807) :
    Calls Tryd.prog 10 #[.slice a n c, .slice pa m d, .int .i64 q] w fun e w' => e = .returned (.bool true) ∧ Below w.heap.size w w' := by
  subst hm
  have HK := Lib.hid hK
  have HP := Lib.hid hP
  have HT := Lib.hid hT
  clear hK hP hT
  by_cases hfew : fewB 3000 40 ls = true
  · have HF := Lib.hid hfew
    clear hfew
    by_cases hfew1 : fewB 3000 40 [key] = true
    · have HF1 := Lib.hid hfew1
      have HL := Lib.hid (flat_le 3000 40 ls HF.out)
      have HL2 := Lib.hid (fewB_true HF.out).2
      have HL1 := Lib.hid (few1_len hfew1)
      clear hfew1
      go_enter Tryd.func10, Tryd.ntmps10
      go_wp2_with fail
      refine (live_walk _ HT.out).mono ?_
      rintro e w1 ⟨rfl, hb1⟩
      have HK1 := Lib.hid (HK.out.below hb1)
      have HP1 := Lib.hid (HP.out.all hb1)
      have HT1 := Lib.hid (HT.out.below' hb1)
      have HB1 := Lib.hid hb1
      clear hb1
      go_wp2_with fail
      refine (few_walk ls _ _ rfl _ _ _ HP1.out hls).mono ?_
      rintro e w' ⟨he, rfl⟩
      rw [HF.out] at he
      subst he
      go_wp2_with fail
      refine (few_one w1 28 _ rfl HK1.out true HF1.out).mono ?_
      rintro e w2 ⟨rfl, hw2⟩
      have hb2 : Below w1.heap.size w1 w2 := by rw [hw2]; exact below_one' w1 _
      have HK2 := Lib.hid (HK1.out.below hb2)
      have HP2 := Lib.hid (HP1.out.all hb2)
      have HT2 := Lib.hid (HT1.out.below' hb2)
      have HB2 := Lib.hid (HB1.out.trans (hb2.mono HB1.out.size))
      clear hb2 hw2
      go_wp2_with fail
      refine (join_walk ls _ _ rfl _ _ HP2.out (by have := HL.out; omega) (by have := HL2.out; omega)).mono ?_
      rintro e w3 ⟨a3, n3, c3, rfl, hO3, hb3⟩
      have TX3 := Lib.hid hO3.txt
      have HK3 := Lib.hid (HK2.out.below hb3)
      have HP3 := Lib.hid (HP2.out.all hb3)
      have HT3 := Lib.hid (HT2.out.below' hb3)
      have HB3 := Lib.hid (HB2.out.trans (hb3.mono HB2.out.size))
      clear hO3 hb3
      have hcap3 : (n3 : Int) ≤ (c3 : Int) := by have := TX3.out.fit; omega
      by_cases h200 : 200 < n3
      · have hc2 : (200 : Int) ≤ (c3 : Int) := by omega
        go_wp2_with fail
        refine (mac_walk key _ _ _ ls _ _ rfl _ w3 HK3.out HP3.out HT3.out (by have := HL1.out; omega) (by have := HL.out; omega) (by have := HL2.out; omega)).mono ?_
        rintro e w4 ⟨rfl, hb4⟩
        obtain ⟨T, hT⟩ : ∃ T, T = ls.flatten := ⟨_, rfl⟩
        have TX4 := Lib.hid (by have h := TX3.out.below hb4; rw [← hT] at h; exact h)
        rw [← hT]
        have HTL := Lib.hid (show T.length ≤ 120000 by rw [hT]; exact HL.out)
        have HK4 := Lib.hid (HK3.out.below hb4)
        have HT4 := Lib.hid (HT3.out.below' hb4)
        have HB4 := Lib.hid (HB3.out.trans (hb4.mono HB3.out.size))
        clear hb4 hT
        go_wp2_with fail
        refine (extract_walk key T _ _ _ _ _ _ w4 HK4.out TX4.out HT4.out (by have := HL1.out; omega) (by have := HTL.out; omega)).mono ?_
        rintro e w5 ⟨rfl, hb5⟩
        obtain ⟨V, hV⟩ : ∃ V, V = macL key T := ⟨_, rfl⟩
        rw [← hV]
        have HV := Lib.hid hV
        have HVL := Lib.hid (show V.length = 32 by rw [hV]; exact macL_len _ _)
        have HK5 := Lib.hid (HK4.out.below hb5)
        have TX5 := Lib.hid (TX4.out.below hb5)
        have HT5 := Lib.hid (HT4.out.below' hb5)
        have HB5 := Lib.hid (HB4.out.trans (hb5.mono HB4.out.size))
        clear hb5 hV
        go_wp2_with (first | (refine wpList_store_abs rfl 31 (.tmp 8) (.tmp 33) rfl w5.heap.size (barr V) (by rfl) (by rfl) 31 _ ((Blk.new w5 _ _).alloc _) (by rw [barr_size, HVL.out]; exact size_u8x32) (by rw [barr_size, HVL.out]; rfl) (barr_one_all _) ?_; intro W6 hW6 p4; have q5 := hW6.blk (Blk.new' (w5.alloc _) _ _ (by simp)) (show w5.heap.size + 1 ≠ w5.heap.size by omega); have qb := Lib.hid (hW6.below (below_two w5 _ _) (Nat.le_refl _)); replace p4 := Lib.hid p4; clear hW6) | (refine wpList_store_abs rfl 31 (.tmp 9) (.tmp 36) rfl (w5.heap.size + 1) (barr V) (by rfl) (by rfl) 31 _ q5 (by rw [barr_size, HVL.out]; exact size_u8x32) (by rw [barr_size, HVL.out]; rfl) (barr_one_all _) ?_; intro W7 hW7 p5; have P4 := Lib.hid (hW7.blk p4.out (by omega)); have QB := Lib.hid (hW7.below qb.out (by omega)); replace p5 := Lib.hid p5; clear hW7))
        have HK7 := Lib.hid (HK5.out.below QB.out)
        have TX7 := Lib.hid (TX5.out.below QB.out)
        have HT7 := Lib.hid (HT5.out.below' QB.out)
        have HB7 := Lib.hid (HB5.out.trans (QB.out.mono HB5.out.size))
        have TA7 := Lib.hid (out32 P4.out HVL.out (Below.refl _ _))
        have TB7 := Lib.hid (out32 p5.out HVL.out (Below.refl _ _))
        have TC7 := Lib.hid (TX7.out.cut (show 200 ≤ n3 by omega))
        clear P4 p5 QB qb p4 q5
        rcases (show q < 0 ∨ 8160 < q ∨ (0 ≤ q ∧ q ≤ 8160) by omega) with hq | hq | hq
        · refine (expand_neg _ _ q hq W7).mono ?_
          rintro e w' ⟨rfl, rfl⟩
          go_wp2_with fail
          refine (ask_neg _ _ q hq W7).mono ?_
          rintro e w' ⟨rfl, rfl⟩
          have TE7 := Lib.hid (Txt.nil W7 0)
          go_wp2_with fail
          refine (rmac_walk key T _ _ _ _ _ _ _ HK7.out TX7.out (by have := HL1.out; omega) (by have := HTL.out; omega)).mono ?_
          rintro e wA ⟨aA, cA, rfl, hOA, hbA⟩
          have TM := Lib.hid (by have h := hOA.txt; rw [← HV.out] at h; exact h)
          have TAA := Lib.hid (TA7.out.below hbA)
          have TBA := Lib.hid (TB7.out.below hbA)
          have TEA := Lib.hid (TE7.out.below hbA)
          have TFA := TEA
          have HBA := Lib.hid (HB7.out.trans (hbA.mono HB7.out.size))
          clear hOA hbA
          go_wp2_with fail
          refine (equal_same _ _ _ _ _ _ _ _ TAA.out TM.out).mono ?_
          rintro e w' ⟨rfl, rfl⟩
          go_wp2_with fail
          refine (equal_same _ _ _ _ _ _ _ _ TBA.out TM.out).mono ?_
          rintro e w' ⟨rfl, rfl⟩
          go_wp2_with fail
          refine (equal_same _ _ _ _ _ _ _ _ TEA.out TFA.out).mono ?_
          rintro e w' ⟨rfl, rfl⟩
          go_wp2
          go_ret
          exact ⟨rfl, HBA.out⟩
        · refine (expand_long _ _ q hq W7).mono ?_
          rintro e w' ⟨rfl, rfl⟩
          go_wp2_with fail
          refine (ask_long _ _ q hq W7).mono ?_
          rintro e w' ⟨rfl, rfl⟩
          have TE7 := Lib.hid (Txt.nil W7 0)
          go_wp2_with fail
          refine (rmac_walk key T _ _ _ _ _ _ _ HK7.out TX7.out (by have := HL1.out; omega) (by have := HTL.out; omega)).mono ?_
          rintro e wA ⟨aA, cA, rfl, hOA, hbA⟩
          have TM := Lib.hid (by have h := hOA.txt; rw [← HV.out] at h; exact h)
          have TAA := Lib.hid (TA7.out.below hbA)
          have TBA := Lib.hid (TB7.out.below hbA)
          have TEA := Lib.hid (TE7.out.below hbA)
          have TFA := TEA
          have HBA := Lib.hid (HB7.out.trans (hbA.mono HB7.out.size))
          clear hOA hbA
          go_wp2_with fail
          refine (equal_same _ _ _ _ _ _ _ _ TAA.out TM.out).mono ?_
          rintro e w' ⟨rfl, rfl⟩
          go_wp2_with fail
          refine (equal_same _ _ _ _ _ _ _ _ TBA.out TM.out).mono ?_
          rintro e w' ⟨rfl, rfl⟩
          go_wp2_with fail
          refine (equal_same _ _ _ _ _ _ _ _ TEA.out TFA.out).mono ?_
          rintro e w' ⟨rfl, rfl⟩
          go_wp2
          go_ret
          exact ⟨rfl, HBA.out⟩
        · obtain ⟨N, rfl⟩ : ∃ N : Nat, q = (N : Int) := ⟨q.toNat, by omega⟩
          have hN : N ≤ 8160 := by omega
          clear hq
          refine (expand_walk key (T.take 200) _ _ _ _ _ _ N hN W7 HK7.out TC7.out HT7.out (by have := HL1.out; omega) (by have := HTL.out; simp; omega)).mono ?_
          rintro e w8 ⟨a8, c8, rfl, hT8, _, hb8⟩
          have TE8 := Lib.hid hT8
          have HK8 := Lib.hid (HK7.out.below hb8)
          have TC8 := Lib.hid (TC7.out.below hb8)
          have TX8 := Lib.hid (TX7.out.below hb8)
          have TA8 := Lib.hid (TA7.out.below hb8)
          have TB8 := Lib.hid (TB7.out.below hb8)
          have HB8 := Lib.hid (HB7.out.trans (hb8.mono HB7.out.size))
          clear hb8 hT8
          go_wp2_with fail
          refine (ask_walk key (T.take 200) _ _ _ _ _ _ N hN w8 HK8.out TC8.out (by have := HL1.out; omega) (by have := HTL.out; simp; omega)).mono ?_
          rintro e w9 ⟨a9, c9, rfl, hT9, hb9⟩
          have TE9 := Lib.hid (TE8.out.below hb9)
          have TF9 := Lib.hid hT9
          have HK9 := Lib.hid (HK8.out.below hb9)
          have TX9 := Lib.hid (TX8.out.below hb9)
          have TA9 := Lib.hid (TA8.out.below hb9)
          have TB9 := Lib.hid (TB8.out.below hb9)
          have HB9 := Lib.hid (HB8.out.trans (hb9.mono HB8.out.size))
          clear hb9 hT9
          go_wp2_with fail
          refine (rmac_walk key T _ _ _ _ _ _ _ HK9.out TX9.out (by have := HL1.out; omega) (by have := HTL.out; omega)).mono ?_
          rintro e wA ⟨aA, cA, rfl, hOA, hbA⟩
          have TM := Lib.hid (by have h := hOA.txt; rw [← HV.out] at h; exact h)
          have TAA := Lib.hid (TA9.out.below hbA)
          have TBA := Lib.hid (TB9.out.below hbA)
          have TEA := Lib.hid (TE9.out.below hbA)
          have TFA := Lib.hid (TF9.out.below hbA)
          have HBA := Lib.hid (HB9.out.trans (hbA.mono HB9.out.size))
          clear hOA hbA
          go_wp2_with fail
          refine (equal_same _ _ _ _ _ _ _ _ TAA.out TM.out).mono ?_
          rintro e w' ⟨rfl, rfl⟩
          go_wp2_with fail
          refine (equal_same _ _ _ _ _ _ _ _ TBA.out TM.out).mono ?_
          rintro e w' ⟨rfl, rfl⟩
          go_wp2_with fail
          refine (equal_same _ _ _ _ _ _ _ _ TEA.out TFA.out).mono ?_
          rintro e w' ⟨rfl, rfl⟩
          go_wp2
          go_ret
          exact ⟨rfl, HBA.out⟩
      · have hc2 : ¬ (200 : Int) < (n3 : Int) := by omega
        go_wp2_with fail
        refine (mac_walk key _ _ _ ls _ _ rfl _ w3 HK3.out HP3.out HT3.out (by have := HL1.out; omega) (by have := HL.out; omega) (by have := HL2.out; omega)).mono ?_
        rintro e w4 ⟨rfl, hb4⟩
        obtain ⟨T, hT⟩ : ∃ T, T = ls.flatten := ⟨_, rfl⟩
        have TX4 := Lib.hid (by have h := TX3.out.below hb4; rw [← hT] at h; exact h)
        rw [← hT]
        have HTL := Lib.hid (show T.length ≤ 120000 by rw [hT]; exact HL.out)
        have HK4 := Lib.hid (HK3.out.below hb4)
        have HT4 := Lib.hid (HT3.out.below' hb4)
        have HB4 := Lib.hid (HB3.out.trans (hb4.mono HB3.out.size))
        clear hb4 hT
        go_wp2_with fail
        refine (extract_walk key T _ _ _ _ _ _ w4 HK4.out TX4.out HT4.out (by have := HL1.out; omega) (by have := HTL.out; omega)).mono ?_
        rintro e w5 ⟨rfl, hb5⟩
        obtain ⟨V, hV⟩ : ∃ V, V = macL key T := ⟨_, rfl⟩
        rw [← hV]
        have HV := Lib.hid hV
        have HVL := Lib.hid (show V.length = 32 by rw [hV]; exact macL_len _ _)
        have HK5 := Lib.hid (HK4.out.below hb5)
        have TX5 := Lib.hid (TX4.out.below hb5)
        have HT5 := Lib.hid (HT4.out.below' hb5)
        have HB5 := Lib.hid (HB4.out.trans (hb5.mono HB4.out.size))
        clear hb5 hV
        go_wp2_with (first | (refine wpList_store_abs rfl 31 (.tmp 8) (.tmp 33) rfl w5.heap.size (barr V) (by rfl) (by rfl) 31 _ ((Blk.new w5 _ _).alloc _) (by rw [barr_size, HVL.out]; exact size_u8x32) (by rw [barr_size, HVL.out]; rfl) (barr_one_all _) ?_; intro W6 hW6 p4; have q5 := hW6.blk (Blk.new' (w5.alloc _) _ _ (by simp)) (show w5.heap.size + 1 ≠ w5.heap.size by omega); have qb := Lib.hid (hW6.below (below_two w5 _ _) (Nat.le_refl _)); replace p4 := Lib.hid p4; clear hW6) | (refine wpList_store_abs rfl 31 (.tmp 9) (.tmp 36) rfl (w5.heap.size + 1) (barr V) (by rfl) (by rfl) 31 _ q5 (by rw [barr_size, HVL.out]; exact size_u8x32) (by rw [barr_size, HVL.out]; rfl) (barr_one_all _) ?_; intro W7 hW7 p5; have P4 := Lib.hid (hW7.blk p4.out (by omega)); have QB := Lib.hid (hW7.below qb.out (by omega)); replace p5 := Lib.hid p5; clear hW7))
        have HK7 := Lib.hid (HK5.out.below QB.out)
        have TX7 := Lib.hid (TX5.out.below QB.out)
        have HT7 := Lib.hid (HT5.out.below' QB.out)
        have HB7 := Lib.hid (HB5.out.trans (QB.out.mono HB5.out.size))
        have TA7 := Lib.hid (out32 P4.out HVL.out (Below.refl _ _))
        have TB7 := Lib.hid (out32 p5.out HVL.out (Below.refl _ _))
        have TC7 := Lib.hid (TX7.out.cut (show n3 ≤ n3 by omega))
        clear P4 p5 QB qb p4 q5
        rcases (show q < 0 ∨ 8160 < q ∨ (0 ≤ q ∧ q ≤ 8160) by omega) with hq | hq | hq
        · refine (expand_neg _ _ q hq W7).mono ?_
          rintro e w' ⟨rfl, rfl⟩
          go_wp2_with fail
          refine (ask_neg _ _ q hq W7).mono ?_
          rintro e w' ⟨rfl, rfl⟩
          have TE7 := Lib.hid (Txt.nil W7 0)
          go_wp2_with fail
          refine (rmac_walk key T _ _ _ _ _ _ _ HK7.out TX7.out (by have := HL1.out; omega) (by have := HTL.out; omega)).mono ?_
          rintro e wA ⟨aA, cA, rfl, hOA, hbA⟩
          have TM := Lib.hid (by have h := hOA.txt; rw [← HV.out] at h; exact h)
          have TAA := Lib.hid (TA7.out.below hbA)
          have TBA := Lib.hid (TB7.out.below hbA)
          have TEA := Lib.hid (TE7.out.below hbA)
          have TFA := TEA
          have HBA := Lib.hid (HB7.out.trans (hbA.mono HB7.out.size))
          clear hOA hbA
          go_wp2_with fail
          refine (equal_same _ _ _ _ _ _ _ _ TAA.out TM.out).mono ?_
          rintro e w' ⟨rfl, rfl⟩
          go_wp2_with fail
          refine (equal_same _ _ _ _ _ _ _ _ TBA.out TM.out).mono ?_
          rintro e w' ⟨rfl, rfl⟩
          go_wp2_with fail
          refine (equal_same _ _ _ _ _ _ _ _ TEA.out TFA.out).mono ?_
          rintro e w' ⟨rfl, rfl⟩
          go_wp2
          go_ret
          exact ⟨rfl, HBA.out⟩
        · refine (expand_long _ _ q hq W7).mono ?_
          rintro e w' ⟨rfl, rfl⟩
          go_wp2_with fail
          refine (ask_long _ _ q hq W7).mono ?_
          rintro e w' ⟨rfl, rfl⟩
          have TE7 := Lib.hid (Txt.nil W7 0)
          go_wp2_with fail
          refine (rmac_walk key T _ _ _ _ _ _ _ HK7.out TX7.out (by have := HL1.out; omega) (by have := HTL.out; omega)).mono ?_
          rintro e wA ⟨aA, cA, rfl, hOA, hbA⟩
          have TM := Lib.hid (by have h := hOA.txt; rw [← HV.out] at h; exact h)
          have TAA := Lib.hid (TA7.out.below hbA)
          have TBA := Lib.hid (TB7.out.below hbA)
          have TEA := Lib.hid (TE7.out.below hbA)
          have TFA := TEA
          have HBA := Lib.hid (HB7.out.trans (hbA.mono HB7.out.size))
          clear hOA hbA
          go_wp2_with fail
          refine (equal_same _ _ _ _ _ _ _ _ TAA.out TM.out).mono ?_
          rintro e w' ⟨rfl, rfl⟩
          go_wp2_with fail
          refine (equal_same _ _ _ _ _ _ _ _ TBA.out TM.out).mono ?_
          rintro e w' ⟨rfl, rfl⟩
          go_wp2_with fail
          refine (equal_same _ _ _ _ _ _ _ _ TEA.out TFA.out).mono ?_
          rintro e w' ⟨rfl, rfl⟩
          go_wp2
          go_ret
          exact ⟨rfl, HBA.out⟩
        · obtain ⟨N, rfl⟩ : ∃ N : Nat, q = (N : Int) := ⟨q.toNat, by omega⟩
          have hN : N ≤ 8160 := by omega
          clear hq
          refine (expand_walk key (T.take n3) _ _ _ _ _ _ N hN W7 HK7.out TC7.out HT7.out (by have := HL1.out; omega) (by have := HTL.out; simp; omega)).mono ?_
          rintro e w8 ⟨a8, c8, rfl, hT8, _, hb8⟩
          have TE8 := Lib.hid hT8
          have HK8 := Lib.hid (HK7.out.below hb8)
          have TC8 := Lib.hid (TC7.out.below hb8)
          have TX8 := Lib.hid (TX7.out.below hb8)
          have TA8 := Lib.hid (TA7.out.below hb8)
          have TB8 := Lib.hid (TB7.out.below hb8)
          have HB8 := Lib.hid (HB7.out.trans (hb8.mono HB7.out.size))
          clear hb8 hT8
          go_wp2_with fail
          refine (ask_walk key (T.take n3) _ _ _ _ _ _ N hN w8 HK8.out TC8.out (by have := HL1.out; omega) (by have := HTL.out; simp; omega)).mono ?_
          rintro e w9 ⟨a9, c9, rfl, hT9, hb9⟩
          have TE9 := Lib.hid (TE8.out.below hb9)
          have TF9 := Lib.hid hT9
          have HK9 := Lib.hid (HK8.out.below hb9)
          have TX9 := Lib.hid (TX8.out.below hb9)
          have TA9 := Lib.hid (TA8.out.below hb9)
          have TB9 := Lib.hid (TB8.out.below hb9)
          have HB9 := Lib.hid (HB8.out.trans (hb9.mono HB8.out.size))
          clear hb9 hT9
          go_wp2_with fail
          refine (rmac_walk key T _ _ _ _ _ _ _ HK9.out TX9.out (by have := HL1.out; omega) (by have := HTL.out; omega)).mono ?_
          rintro e wA ⟨aA, cA, rfl, hOA, hbA⟩
          have TM := Lib.hid (by have h := hOA.txt; rw [← HV.out] at h; exact h)
          have TAA := Lib.hid (TA9.out.below hbA)
          have TBA := Lib.hid (TB9.out.below hbA)
          have TEA := Lib.hid (TE9.out.below hbA)
          have TFA := Lib.hid (TF9.out.below hbA)
          have HBA := Lib.hid (HB9.out.trans (hbA.mono HB9.out.size))
          clear hOA hbA
          go_wp2_with fail
          refine (equal_same _ _ _ _ _ _ _ _ TAA.out TM.out).mono ?_
          rintro e w' ⟨rfl, rfl⟩
          go_wp2_with fail
          refine (equal_same _ _ _ _ _ _ _ _ TBA.out TM.out).mono ?_
          rintro e w' ⟨rfl, rfl⟩
          go_wp2_with fail
          refine (equal_same _ _ _ _ _ _ _ _ TEA.out TFA.out).mono ?_
          rintro e w' ⟨rfl, rfl⟩
          go_wp2
          go_ret
          exact ⟨rfl, HBA.out⟩
    · have HF1 := Lib.hid (show fewB 3000 40 [key] = false by simpa using hfew1)
      clear hfew1
      go_enter Tryd.func10, Tryd.ntmps10
      go_wp2_with fail
      refine (live_walk _ HT.out).mono ?_
      rintro e w1 ⟨rfl, hb1⟩
      have HK1 := Lib.hid (HK.out.below hb1)
      have HP1 := Lib.hid (HP.out.all hb1)
      have HB1 := Lib.hid hb1
      clear hb1
      go_wp2_with fail
      refine (few_walk ls _ _ rfl _ _ _ HP1.out hls).mono ?_
      rintro e w' ⟨he, rfl⟩
      rw [HF.out] at he
      subst he
      go_wp2_with fail
      refine (few_one w1 28 _ rfl HK1.out false HF1.out).mono ?_
      rintro e w' ⟨rfl, rfl⟩
      go_wp2_with fail
      refine (live_again HT.out (HB1.out.trans ((below_one' w1 _).mono HB1.out.size))).mono ?_
      rintro e w2 ⟨rfl, hb2⟩
      go_wp2
      go_ret
      exact ⟨rfl, hb2⟩
  · have HF := Lib.hid (show fewB 3000 40 ls = false by simpa using hfew)
    clear hfew
    go_enter Tryd.func10, Tryd.ntmps10
    go_wp2_with fail
    refine (live_walk _ HT.out).mono ?_
    rintro e w1 ⟨rfl, hb1⟩
    have HK1 := Lib.hid (HK.out.below hb1)
    have HP1 := Lib.hid (HP.out.all hb1)
    have HB1 := Lib.hid hb1
    clear hb1
    go_wp2_with fail
    refine (few_walk ls _ _ rfl _ _ _ HP1.out hls).mono ?_
    rintro e w' ⟨he, rfl⟩
    rw [HF.out] at he
    subst he
    go_wp2_with fail
    refine (live_again HT.out HB1.out).mono ?_
    rintro e w2 ⟨rfl, hb2⟩
    go_wp2
    go_ret
    exact ⟨rfl, hb2⟩
end Go.Proofs.YtgbahfggnbpnmaaDoor
