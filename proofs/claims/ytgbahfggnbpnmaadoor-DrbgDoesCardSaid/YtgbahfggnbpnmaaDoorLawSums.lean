import Derived.Test.YtgbahfggnbpnmaaDoorRefSum
/-
  The walk of liverylaw02.Sha2Sums.
-/
namespace Go.Proofs.YtgbahfggnbpnmaaDoor
open Go.RowKit

/-- live, once more. -/
theorem live_again {w w1 : World} (hT : Two w) (hb : Below w.heap.size w w1) : Calls Tryd.prog 26 #[] w1 fun e w' => e = .returned (.bool true) ∧ Below w.heap.size w w' :=
  (live_walk w1 (hT.below' hb)).mono fun _ _ ⟨he, h⟩ => ⟨he, hb.trans (h.mono hb.size)⟩
set_option maxRecDepth 100000 in
set_option maxHeartbeats 1000000 in
theorem sha2sums_walk (ls : List (List UInt8)) (n cap : Nat) (hn : n = ls.length) (pa : Option Addr) (w : World) (hP : Parts w (· < w.heap.size) pa ls) (hT : Two w) (hls : ls.length ≤ 9223372036854775807) :
    Calls Tryd.prog 5 #[.slice pa n cap] w fun e w' => e = .returned (.bool true) ∧ Below w.heap.size w w' := by
  subst hn
  have HP := Lib.hid hP
  have HT := Lib.hid hT
  clear hP hT
  by_cases hfew : fewB 3000 40 ls = true
  · have hl := flat_le 3000 40 ls hfew
    have hl2 := (fewB_true hfew).2
    have HF := Lib.hid hfew
    clear hfew
    go_enter Tryd.func5, Tryd.ntmps5
    go_wp2_with (first | (go_at_call 26; refine (live_walk _ HT.out).mono ?_; rintro e w1 ⟨rfl, hb1⟩; have HP1 := Lib.hid (HP.out.all hb1); have HT1 := Lib.hid (HT.out.below' hb1); have HB1 := Lib.hid hb1; clear hb1) | (go_at_call 29; refine (few_walk ls _ _ rfl _ _ _ HP1.out hls).mono ?_; rintro e w' ⟨he, rfl⟩; rw [HF.out] at he; subst he) | (go_at_call 36; refine (join_walk ls _ _ rfl _ _ HP1.out (by omega) (by omega)).mono ?_; rintro e w2 ⟨a2, n2, c2, rfl, hO2, hb2⟩; have TX2 := Lib.hid hO2.txt; have HP2 := Lib.hid (HP1.out.all hb2); have HT2 := Lib.hid (HT1.out.below' hb2); have HB2 := Lib.hid (HB1.out.trans (hb2.mono HB1.out.size)); clear hO2 hb2) | (go_at_call 35; refine (rsum_walk ls.flatten _ _ _ _ TX2.out (by omega)).mono ?_; rintro e w3 ⟨a3, c3, rfl, hO3, hb3⟩; have TX3 := Lib.hid hO3.txt; have HP3 := Lib.hid (HP2.out.all hb3); have HT3 := Lib.hid (HT2.out.below' hb3); have HB3 := Lib.hid (HB2.out.trans (hb3.mono HB2.out.size)); clear hO3 hb3) | (go_at_call 30; refine (sum256_walk ls _ _ rfl _ _ HP3.out HT3.out (by omega) (by omega)).mono ?_; rintro e w4 ⟨rfl, hb4⟩; have TX4 := Lib.hid (TX3.out.below hb4); have HP4 := Lib.hid (HP3.out.all hb4); have HT4 := Lib.hid (HT3.out.below' hb4); have HB4 := Lib.hid (HB3.out.trans (hb4.mono HB3.out.size)); clear hb4) | (go_at_call 37; refine (sum192_walk ls _ _ rfl _ _ HP4.out HT4.out (by omega) (by omega)).mono ?_; rintro e w5 ⟨rfl, hb5⟩; have TX5 := Lib.hid (TX4.out.below hb5); have HB5 := Lib.hid (HB4.out.trans (hb5.mono HB4.out.size)); clear hb5) | (refine wpList_store_abs rfl 31 (.tmp 4) (.tmp 18) rfl w5.heap.size (barr (sha ls.flatten)) (by rfl) (by rfl) 31 _ ((Blk.new w5 _ _).alloc _) (by rw [barr_size, sha_len]; exact size_u8x32) (by rw [barr_size, sha_len]; rfl) (barr_one_all _) ?_; intro W6 hW6 p4; have q5 := hW6.blk (Blk.new' (w5.alloc _) _ _ (by simp)) (show w5.heap.size + 1 ≠ w5.heap.size by omega); have qb := Lib.hid (hW6.below (below_two w5 _ _) (Nat.le_refl _)); replace p4 := Lib.hid p4; clear hW6) | (refine wpList_store_abs rfl 44 (.tmp 5) (.tmp 20) rfl (w5.heap.size + 1) (barr ((sha ls.flatten).take 24)) (by rfl) (by rfl) 44 _ q5 (by rw [barr_size, List.length_take, sha_len]; exact size_u8x24) (by rw [barr_size, List.length_take, sha_len]; rfl) (barr_one_all _) ?_; intro W7 hW7 p5; have P4 := Lib.hid (hW7.blk p4.out (by omega)); have QB := Lib.hid (hW7.below qb.out (by omega)); replace p5 := Lib.hid p5; clear hW7))
    have TA := Lib.hid (by have h := Txt.of_blk P4.out; rw [sha_len] at h; exact h : Txt W7 _ 32 32 (sha ls.flatten))
    have TB := Lib.hid (by have h := Txt.of_blk p5.out; rw [List.length_take, sha_len] at h; exact h : Txt W7 _ 24 24 ((sha ls.flatten).take 24))
    have TC := Lib.hid (TX5.out.below QB.out)
    have TD := Lib.hid (TC.out.cut (show 24 ≤ 32 by omega))
    have HB7 := Lib.hid (HB5.out.trans (QB.out.mono HB5.out.size))
    have hc3 : (24 : Nat) ≤ c3 := by have := TC.out.fit; omega
    have hc4 : (24 : Int) ≤ (c3 : Int) := by omega
    clear P4 p5 QB qb p4 q5
    go_quiet ((go_at_call 38; first | exact Calls.quiet_of_same (equal_q _ _ _ _ _ _ _ _ (TA.out.drewN _) (TC.out.drewN _)) | exact Calls.quiet_of_same (equal_q _ _ _ _ _ _ _ _ (TB.out.drewN _) (TD.out.drewN _))))
    go_wp2
    go_ret
    exact ⟨rfl, below_drewN HB7.out nq⟩
  · have HF := Lib.hid (show fewB 3000 40 ls = false by simpa using hfew)
    clear hfew
    go_enter Tryd.func5, Tryd.ntmps5
    go_wp2_with (first | (go_at_call 29; refine (few_walk ls _ _ rfl _ _ _ HP1.out hls).mono ?_; rintro e w' ⟨he, rfl⟩; rw [HF.out] at he; subst he) | (go_at_call 26; refine (live_again HT.out (by first | exact HB1.out | exact Below.refl _ _)).mono ?_; rintro e w1 ⟨rfl, hb1⟩; have HB1 := Lib.hid hb1; have HP1 := Lib.hid (HP.out.all HB1.out); clear hb1))
    go_ret
    exact ⟨rfl, HB1.out⟩
end Go.Proofs.YtgbahfggnbpnmaaDoor
