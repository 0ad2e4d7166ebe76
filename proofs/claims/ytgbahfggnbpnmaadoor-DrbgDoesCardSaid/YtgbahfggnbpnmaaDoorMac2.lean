import Derived.Test.YtgbahfggnbpnmaaDoorMac
/-
  Mac of one and of three texts; Extract; the reference's Mac.
-/
namespace Go.Proofs.YtgbahfggnbpnmaaDoor
open Go.RowKit
theorem mac_one (X : World) (t : TypeId) (g : Nat) (hg : g = X.heap.size) {ka a : Option Addr} {kn kc n c : Nat} {key l : List UInt8} (hk : Txt X ka kn kc key) (h : Txt X a n c l) (hT : Two X) (hlen : key.length ≤ 1152921504606) (hl : l.length ≤ 1152921504606) :
    Calls Tryd.prog 40 #[.slice ka kn kc, .slice (some ⟨g, 0, none⟩) 1 1] (X.alloc (.cells #[.slice a n c] t)) fun e w' => e = .returned (.agg (barr (macL key l))) ∧ Below X.heap.size X w' := by
  subst hg
  refine (mac_walk key ka kn kc [l] 1 1 rfl _ _ (hk.alloc _) ((h.alloc _).parts1 (Blk.new X _ t)) (hT.below' (below_one' X _)) hlen (by simpa using hl) (by simp)).mono ?_
  rintro e w' ⟨he, hb⟩
  simp only [List.flatten_cons, List.flatten_nil, List.append_nil] at he
  exact ⟨he, (below_one' X _).trans (hb.mono (by simp))⟩
theorem mac_three (X : World) (t : TypeId) (g : Nat) (hg : g = X.heap.size) {ka a a2 a3 : Option Addr} {kn kc n c n2 c2 n3 c3 : Nat} {key l l2 l3 : List UInt8} (hk : Txt X ka kn kc key) (h : Txt X a n c l) (h2 : Txt X a2 n2 c2 l2) (h3 : Txt X a3 n3 c3 l3) (hT : Two X) (hlen : key.length ≤ 1152921504606) (hl : l.length + (l2.length + l3.length) ≤ 1152921504606) :
    Calls Tryd.prog 40 #[.slice ka kn kc, .slice (some ⟨g, 0, none⟩) 3 3] (X.alloc (.cells #[.slice a n c, .slice a2 n2 c2, .slice a3 n3 c3] t)) fun e w' => e = .returned (.agg (barr (macL key (l ++ (l2 ++ l3))))) ∧ Below X.heap.size X w' := by
  subst hg
  refine (mac_walk key ka kn kc [l, l2, l3] 3 3 rfl _ _ (hk.alloc _) ((h.alloc _).parts3 (h2.alloc _) (h3.alloc _) (Blk.new X _ t)) (hT.below' (below_one' X _)) hlen (by simpa using hl) (by simp)).mono ?_
  rintro e w' ⟨he, hb⟩
  simp only [List.flatten_cons, List.flatten_nil, List.append_nil] at he
  exact ⟨he, (below_one' X _).trans (hb.mono (by simp))⟩
set_option maxRecDepth 100000 in
set_option maxHeartbeats 1000000 in
theorem extract_walk (key l : List UInt8) (a b : Option Addr) (n c m d : Nat) (w : World) (hK : Txt w a n c key) (hX : Txt w b m d l) (hT : Two w) (hlen : key.length ≤ 1152921504606) (hl : l.length ≤ 1152921504606) :
    Calls Tryd.prog 42 #[.slice a n c, .slice b m d] w fun e w' => e = .returned (.agg (barr (macL key l))) ∧ Below w.heap.size w w' := by
  obtain ⟨q0, qb⟩ := new1 w (barr (List.replicate 32 0)) 31
  have HB0 := Lib.hid qb
  have HK0 := Lib.hid (hK.below qb)
  have HX0 := Lib.hid (hX.below qb)
  have HT0 := Lib.hid (hT.below' qb)
  have HQ0 := Lib.hid q0
  have HSZ := Lib.hid (show (w.alloc (.cells (barr (List.replicate 32 0)) 31)).heap.size = w.heap.size + 1 by simp)
  clear hK hX hT q0 qb
  go_enter Tryd.func42, Tryd.ntmps42
  go_wp2_with (first | (go_at_call 40; refine (mac_one _ 28 _ (by simp) HK0.out HX0.out HT0.out hlen hl).mono ?_; rintro e w2 ⟨rfl, hb2⟩; have HQ2 := Lib.hid (HQ0.out.below hb2 HQ0.out.lt); have HB2 := Lib.hid (HB0.out.trans (hb2.mono HB0.out.size)); clear hb2) | (refine wpList_store_abs rfl 31 (.tmp 4) (.tmp 8) rfl w.heap.size (barr (macL key l)) (by rfl) (by rfl) 31 _ HQ2.out (by rw [barr_size, macL_len]; exact size_u8x32) (by rw [barr_size, barr_size, macL_len]; rfl) (barr_one_all _) ?_; intro W9 hW9 p9; have HB9 := hW9.below HB2.out (Nat.le_refl _); clear hW9))
  refine bodyPost_ret (v := .agg (barr (macL key l))) ?_ rfl ⟨rfl, HB9⟩
  exact results_blk rfl _ p9 rfl Tryd.underlying31 (by rw [barr_size, macL_len]; exact size_u8x32)
set_option maxRecDepth 100000 in
set_option maxHeartbeats 1000000 in
theorem rmac_walk (key l : List UInt8) (a b : Option Addr) (n c m d : Nat) (w : World) (hK : Txt w a n c key) (hX : Txt w b m d l) (hlen : key.length ≤ 1152921504606) (hl : l.length ≤ 1152921504000) :
    Calls Tryd.prog 44 #[.slice a n c, .slice b m d] w fun e w' => ∃ a' c', e = .returned (.slice a' 32 c') ∧ OwnB w' w.heap.size (.slice a' 32 c') (macL key l) ∧ Below w.heap.size w w' := by
  have HK := Lib.hid hK
  have HX := Lib.hid hX
  clear hK hX
  go_enter Tryd.func44, Tryd.ntmps44
  go_wp2_with fail
  refine (turned_walk key 92 a n c w HK.out hlen).mono ?_
  rintro e w1 ⟨g1, rfl, hg1, hb1, hbel1⟩
  have HK1 := Lib.hid (HK.out.below hbel1)
  have HX1 := Lib.hid (HX.out.below hbel1)
  have TA1 := Lib.hid (by have h := Txt.of_blk hb1; rw [turnL_len] at h; exact h : Txt w1 (some ⟨g1, 0, none⟩) 64 64 (turnL key 92))
  have HB1 := Lib.hid hbel1
  clear hg1 hb1 hbel1
  go_wp2_with fail
  refine (turned_walk key 54 a n c w1 HK1.out hlen).mono ?_
  rintro e w2 ⟨g2, rfl, hg2, hb2, hbel2⟩
  have HX2 := Lib.hid (HX1.out.below hbel2)
  have TA2 := Lib.hid (TA1.out.below hbel2)
  have TB2 := Lib.hid (by have h := Txt.of_blk hb2; rw [turnL_len] at h; exact h : Txt w2 (some ⟨g2, 0, none⟩) 64 64 (turnL key 54))
  have HB2 := Lib.hid (HB1.out.trans (hbel2.mono HB1.out.size))
  clear hg2 hb2 hbel2
  go_wp2_with fail
  refine (join2 w2 28 _ rfl TB2.out HX2.out (by rw [turnL_len]; omega)).mono ?_
  rintro e w3 ⟨a3, n3, c3, rfl, hO3, hb3⟩
  have TC3 := Lib.hid hO3.txt
  have TA3 := Lib.hid (TA2.out.below hb3)
  have HB3 := Lib.hid (HB2.out.trans (hb3.mono HB2.out.size))
  clear hO3 hb3
  go_wp2_with fail
  refine (rsum_walk _ _ _ _ w3 TC3.out (by rw [List.length_append, turnL_len]; omega)).mono ?_
  rintro e w4 ⟨a4, c4, rfl, hO4, hb4⟩
  have TD4 := Lib.hid hO4.txt
  have TA4 := Lib.hid (TA3.out.below hb4)
  have HB4 := Lib.hid (HB3.out.trans (hb4.mono HB3.out.size))
  clear hO4 hb4
  go_wp2_with fail
  refine (join2 w4 28 _ rfl TA4.out TD4.out (by rw [turnL_len, sha_len]; omega)).mono ?_
  rintro e w5 ⟨a5, n5, c5, rfl, hO5, hb5⟩
  have TE5 := Lib.hid hO5.txt
  have HB5 := Lib.hid (HB4.out.trans (hb5.mono HB4.out.size))
  clear hO5 hb5
  go_wp2_with fail
  refine (rsum_walk _ _ _ _ w5 TE5.out (by rw [List.length_append, turnL_len, sha_len]; omega)).mono ?_
  rintro e w6 ⟨a6, c6, rfl, hO6, hb6⟩
  have HB6 := Lib.hid (HB5.out.trans (hb6.mono HB5.out.size))
  have HO6 := Lib.hid (hO6.mono HB5.out.size)
  clear hO6 hb6
  go_wp2
  go_ret
  exact ⟨a6, c6, rfl, HO6.out, HB6.out⟩
end Go.Proofs.YtgbahfggnbpnmaaDoor
