import Derived.Test.YtgbahfggnbpnmaaDoorROpen
import Derived.Test.YtgbahfggnbpnmaaDoorLawSealBack
/-
  The walk of liverylaw04.SealOpens.
-/
namespace Go.Proofs.YtgbahfggnbpnmaaDoor
open Go.RowKit
set_option maxRecDepth 100000 in
set_option maxHeartbeats 4000000 in
theorem sealopens_walk (key nonce ad plain : List UInt8) (hk : key.length = 32) (hnon : nonce.length = 12) (a b : Option Addr) (n c m d : Nat) (w : World) (hA : Txt w a n c ad) (hX : Txt w b m d plain) (hT : Two w) :
    Calls Tryd.prog 12 #[.agg (barr key), .agg (barr nonce), .slice a n c, .slice b m d] w fun e w' => e = .returned (.bool true) ∧ Below w.heap.size w w' := by
  have bx := Boxed.new w key nonce
  have HX0 := Lib.hid bx
  have HA0 := Lib.hid (hA.on bx.b)
  have HP0 := Lib.hid (hX.on bx.b)
  have HT0 := Lib.hid (hT.on bx.b)
  have HTw := Lib.hid hT
  have HS1 := Lib.hid (show (Tryd.prog.info? 31).map (·.size) = some (barr key).size by rw [barr_size, hk]; exact size_u8x32)
  have HS2 := Lib.hid (show (Tryd.prog.info? 62).map (·.size) = some (barr nonce).size by rw [barr_size, hnon]; exact size_u8x12)
  have HKL := Lib.hid hk
  have HNL := Lib.hid hnon
  have HM := Lib.hid hX.len
  clear bx hA hX hT hk hnon
  by_cases hfew : fewOf 2000 [ad, plain] = true
  · have HF := Lib.hid hfew
    have HAL := Lib.hid (few4_2 hfew).1
    have HPL := Lib.hid (few4_2 hfew).2
    clear hfew
    by_cases hm : m < 32
    · have HM32 := hm
      go_enter Tryd.func12, Tryd.ntmps12
      go_wp2_with fail
      refine (live4_walk _ HT0.out).mono ?_
      rintro e w1 ⟨rfl, hb⟩
      have HX1 := Lib.hid (HX0.out.on hb)
      have HA1 := Lib.hid (HA0.out.on hb)
      have HP1 := Lib.hid (HP0.out.on hb)
      have HT1 := Lib.hid (HT0.out.on hb)
      clear hb HX0 HA0 HP0 HT0
      go_wp2_with fail
      refine (few4_two w1 28 _ rfl HA1.out HP1.out true HF.out).mono ?_
      rintro e w2 ⟨rfl, hw2⟩
      have hb : Below w1.heap.size w1 w2 := by rw [hw2]; exact below_one' w1 _
      clear hw2
      have HX2 := Lib.hid (HX1.out.on hb)
      have HA2 := Lib.hid (HA1.out.on hb)
      have HP2 := Lib.hid (HP1.out.on hb)
      have HT2 := Lib.hid (HT1.out.on hb)
      clear hb HX1 HA1 HP1 HT1
      go_wp2_with fail
      refine (join1 w2 28 _ rfl HP2.out (by have := HPL.out; omega)).mono ?_
      rintro e w3 ⟨a3, n3, c3, rfl, hO, hb⟩
      have HX3 := Lib.hid (HX2.out.on hb)
      have HA3 := Lib.hid (HA2.out.on hb)
      have HP3 := Lib.hid (HP2.out.on hb)
      have HT3 := Lib.hid (HT2.out.on hb)
      clear hb HX2 HA2 HP2 HT2
      obtain rfl : m = n3 := by rw [HM.out]; exact hO.len.symm
      have TJ3 := Lib.hid hO.txt
      clear hO
      go_wp2_with (first | (refine wpList_load_row rfl 31 (.tmp 4) rfl w.heap.size rfl 31 _ _ _ HX3.out.k Tryd.underlying31 rfl HS1.out ?_) | (refine wpList_load_row rfl 62 (.tmp 5) rfl (w.heap.size + 1) rfl 62 _ _ _ HX3.out.n Tryd.underlying62 rfl HS2.out ?_))
      refine (open_short key nonce _ _ _ _ hm w3).mono ?_
      rintro e w4 ⟨rfl, hb⟩
      have HX4 := Lib.hid (HX3.out.on hb)
      have HA4 := Lib.hid (HA3.out.on hb)
      have HP4 := Lib.hid (HP3.out.on hb)
      have HT4 := Lib.hid (HT3.out.on hb)
      have TJ4 := Lib.hid (TJ3.out.on hb)
      clear hb HX3 HA3 HP3 HT3 TJ3
      have TKb := Lib.hid (out32 HX4.out.k HKL.out (Below.refl _ _))
      have TNb := Lib.hid (by have h := Txt.of_blk HX4.out.n; rw [HNL.out] at h; exact h)
      go_wp2
      refine wp_region_held_drew (S := fun w' => Below w4.heap.size w4 w') (by kernel_rfl) (Below.refl _ _).drew (fun _ => ?_)
      have HS := Lib.hid ((Below.refl w4.heap.size w4).drew)
      have TJ4 := Lib.hid (TJ4.out.on (HS.out))
      have HA4 := Lib.hid (HA4.out.on (HS.out))
      have HP4 := Lib.hid (HP4.out.on (HS.out))
      have TKb := Lib.hid (TKb.out.on (HS.out))
      have TNb := Lib.hid (TNb.out.on (HS.out))
      generalize World.drew w4 = v0 at *
      refine wpAnyH_take (i := 0) (oi := ⟨some 36, .slice 31 (.tmp 4) none none none, 28, _, _, none⟩) (v := .slice (some ⟨w.heap.size, 0, none⟩) 32 32) rfl (by kernel_rfl) (by kernel_rfl) (by kernel_rfl) (fun _ _ _ h => h) (Or.inl ⟨by rfl, fun _ _ => by go_simp⟩) HS.out ?_
      refine wpAnyH_take (i := 1) (oi := ⟨some 37, .slice 62 (.tmp 5) none none none, 28, _, _, none⟩) (v := .slice (some ⟨w.heap.size + 1, 0, none⟩) 12 12) rfl (by kernel_rfl) (by kernel_rfl) (by kernel_rfl) (fun _ _ _ h => h) (Or.inl ⟨by rfl, fun _ _ => by go_simp⟩) HS.out ?_
      refine wpAnyH_take (i := 2) (oi := ⟨some 38, .move (.tmp 2), 28, _, _, none⟩) (v := .slice a n c) rfl (by kernel_rfl) (by kernel_rfl) (by kernel_rfl) (fun _ _ _ h => h) (Or.inl ⟨by rfl, fun _ _ => by go_simp⟩) HS.out ?_
      refine wpAnyH_take (i := 3) (oi := ⟨some 39, .move (.tmp 3), 28, _, _, none⟩) (v := .slice b m d) rfl (by kernel_rfl) (by kernel_rfl) (by kernel_rfl) (fun _ _ _ h => h) (Or.inl ⟨by rfl, fun _ _ => by go_simp⟩) HS.out ?_
      try simp only [Act.put, List.setIfInBounds_toArray, List.set_cons_succ, List.set_cons_zero]
      refine wpAnyH_ready (rs := [4]) (by kernel_rfl) (by simp) ?_
      refine AllReadyH.cons (o := ⟨some 40, .call { callee := .value (.func 50), args := #[.tmp 36, .tmp 37, .tmp 38, .tmp 39], argTypes := #[28, 28, 28, 28] }, _, _, _, none⟩) rfl (fun K hK => ?_) AllReadyH.nil
      go_simp
      refine (ropen_short _ _ _ b m d hm v0).mono ?_
      rintro e v1 ⟨rfl, hw⟩
      have hb : Below v0.heap.size v0 v1 := by rw [← hw]; exact Below.refl _ _
      have TJ4 := Lib.hid (TJ4.out.on hb)
      have HA4 := Lib.hid (HA4.out.on hb)
      have HP4 := Lib.hid (HP4.out.on hb)
      have TKb := Lib.hid (TKb.out.on hb)
      have TNb := Lib.hid (TNb.out.on hb)
      have HS := Lib.hid (HS.out.trans (hb.mono HS.out.size))
      clear hb hw
      refine hK _ _ HS.out (fun _ => ?_)
      clear hK K
      refine wpAnyH_take (i := 5) (oi := ⟨some 35, .move (.tmp 40), _, _, _, none⟩) (v := .tuple #[.slice none 0 0, .int .i64 8]) rfl (by kernel_rfl) (by kernel_rfl) (by kernel_rfl) (fun _ _ _ h => h) (Or.inl ⟨by rfl, fun _ _ => by go_simp⟩) HS.out ?_
      refine wpAnyH_take (i := 6) (oi := ⟨some 41, .extract (.tmp 35) 0, 28, _, _, none⟩) (v := .slice none 0 0) rfl (by kernel_rfl) (by kernel_rfl) (by kernel_rfl) (fun _ _ _ h => h) (Or.inl ⟨by rfl, fun _ _ => by go_simp⟩) HS.out ?_
      refine wpAnyH_take (i := 7) (oi := ⟨some 42, .extract (.tmp 35) 1, 37, _, _, none⟩) (v := .int .i64 8) rfl (by kernel_rfl) (by kernel_rfl) (by kernel_rfl) (fun _ _ _ h => h) (Or.inl ⟨by rfl, fun _ _ => by go_simp⟩) HS.out ?_
      refine wpAnyH_take (i := 8) (oi := ⟨some 12, .assign (.tmp 41), 28, _, _, none⟩) (v := .slice none 0 0) rfl (by kernel_rfl) (by kernel_rfl) (by kernel_rfl) (fun _ _ _ h => h) (Or.inl ⟨by rfl, fun _ _ => by go_simp⟩) HS.out ?_
      refine wpAnyH_take (i := 9) (oi := ⟨some 13, .assign (.tmp 42), 37, _, _, none⟩) (v := .int .i64 8) rfl (by kernel_rfl) (by kernel_rfl) (by kernel_rfl) (fun _ _ _ h => h) (Or.inl ⟨by rfl, fun _ _ => by go_simp⟩) HS.out ?_
      try simp only [Act.put, List.setIfInBounds_toArray, List.set_cons_succ, List.set_cons_zero]
      refine wpAnyH_done (by kernel_rfl) ?_ _
      have HB5 := Lib.hid (HX4.out.b.trans (HS.out.mono HX4.out.b.size))
      go_wp2_with fail
      refine (equal_q _ _ _ _ _ _ _ v1 (Txt.nil _ _) (Txt.nil _ _)).mono ?_
      rintro e w7 ⟨rfl, hw⟩
      obtain ⟨w8, rfl⟩ : ∃ w8, w8 = w7 := ⟨_, rfl⟩
      subst hw
      go_wp2_with fail
      refine (equal_q _ _ _ _ _ _ plain w8 TJ4.out HP4.out).mono ?_
      rintro e w9 ⟨rfl, hw⟩
      subst hw
      go_wp2
      go_ret
      exact ⟨rfl, HB5.out⟩
    · obtain ⟨M, hM⟩ : ∃ M, m = M + 32 := ⟨m - 32, by omega⟩
      by_cases htg : tagL (macK key) nonce ad (plain.take M) = plain.drop M
      · have HTG := Lib.hid htg
        have HMM := Lib.hid hM
        clear htg hm hM
        go_enter Tryd.func12, Tryd.ntmps12
        go_wp2_with fail
        refine (live4_walk _ HT0.out).mono ?_
        rintro e w1 ⟨rfl, hb⟩
        have HX1 := Lib.hid (HX0.out.on hb)
        have HA1 := Lib.hid (HA0.out.on hb)
        have HP1 := Lib.hid (HP0.out.on hb)
        have HT1 := Lib.hid (HT0.out.on hb)
        clear hb HX0 HA0 HP0 HT0
        go_wp2_with fail
        refine (few4_two w1 28 _ rfl HA1.out HP1.out true HF.out).mono ?_
        rintro e w2 ⟨rfl, hw2⟩
        have hb : Below w1.heap.size w1 w2 := by rw [hw2]; exact below_one' w1 _
        clear hw2
        have HX2 := Lib.hid (HX1.out.on hb)
        have HA2 := Lib.hid (HA1.out.on hb)
        have HP2 := Lib.hid (HP1.out.on hb)
        have HT2 := Lib.hid (HT1.out.on hb)
        clear hb HX1 HA1 HP1 HT1
        go_wp2_with fail
        refine (join1 w2 28 _ rfl HP2.out (by have := HPL.out; omega)).mono ?_
        rintro e w3 ⟨a3, n3, c3, rfl, hO, hb⟩
        have HX3 := Lib.hid (HX2.out.on hb)
        have HA3 := Lib.hid (HA2.out.on hb)
        have HP3 := Lib.hid (HP2.out.on hb)
        have HT3 := Lib.hid (HT2.out.on hb)
        clear hb HX2 HA2 HP2 HT2
        obtain rfl : m = n3 := by rw [HM.out]; exact hO.len.symm
        have TJ3 := Lib.hid hO.txt
        clear hO
        go_wp2_with (first | (refine wpList_load_row rfl 31 (.tmp 4) rfl w.heap.size rfl 31 _ _ _ HX3.out.k Tryd.underlying31 rfl HS1.out ?_) | (refine wpList_load_row rfl 62 (.tmp 5) rfl (w.heap.size + 1) rfl 62 _ _ _ HX3.out.n Tryd.underlying62 rfl HS2.out ?_))
        refine (open_walk key nonce ad plain HKL.out HNL.out _ _ _ _ _ _ M HMM.out w3 HA3.out TJ3.out HT3.out (by have := HAL.out; omega) (by have := HPL.out; omega)).mono ?_
        rintro e w4 ⟨hb, hor⟩
        obtain ⟨g5, rfl, hT5⟩ : ∃ g, e = .returned (.tuple #[.slice (some ⟨g, 0, none⟩) M M, .int .i64 0]) ∧ Txt w4 (some ⟨g, 0, none⟩) M M (coverL (encK key) nonce (plain.take M)) := by
          rcases hor with h | h
          · exact h.2
          · exact absurd HTG.out h.1
        have TO4 := Lib.hid hT5
        have HX4 := Lib.hid (HX3.out.on hb)
        have HA4 := Lib.hid (HA3.out.on hb)
        have HP4 := Lib.hid (HP3.out.on hb)
        have HT4 := Lib.hid (HT3.out.on hb)
        have TJ4 := Lib.hid (TJ3.out.on hb)
        clear hb HX3 HA3 HP3 HT3 TJ3
        clear hor hT5
        have TKb := Lib.hid (out32 HX4.out.k HKL.out (Below.refl _ _))
        have TNb := Lib.hid (by have h := Txt.of_blk HX4.out.n; rw [HNL.out] at h; exact h)
        go_wp2
        refine wp_region_held_drew (S := fun w' => Below w4.heap.size w4 w') (by kernel_rfl) (Below.refl _ _).drew (fun _ => ?_)
        have HS := Lib.hid ((Below.refl w4.heap.size w4).drew)
        have TJ4 := Lib.hid (TJ4.out.on (HS.out))
        have HA4 := Lib.hid (HA4.out.on (HS.out))
        have HP4 := Lib.hid (HP4.out.on (HS.out))
        have TKb := Lib.hid (TKb.out.on (HS.out))
        have TNb := Lib.hid (TNb.out.on (HS.out))
        have TO4 := Lib.hid (TO4.out.on (HS.out))
        generalize World.drew w4 = v0 at *
        refine wpAnyH_take (i := 0) (oi := ⟨some 36, .slice 31 (.tmp 4) none none none, 28, _, _, none⟩) (v := .slice (some ⟨w.heap.size, 0, none⟩) 32 32) rfl (by kernel_rfl) (by kernel_rfl) (by kernel_rfl) (fun _ _ _ h => h) (Or.inl ⟨by rfl, fun _ _ => by go_simp⟩) HS.out ?_
        refine wpAnyH_take (i := 1) (oi := ⟨some 37, .slice 62 (.tmp 5) none none none, 28, _, _, none⟩) (v := .slice (some ⟨w.heap.size + 1, 0, none⟩) 12 12) rfl (by kernel_rfl) (by kernel_rfl) (by kernel_rfl) (fun _ _ _ h => h) (Or.inl ⟨by rfl, fun _ _ => by go_simp⟩) HS.out ?_
        refine wpAnyH_take (i := 2) (oi := ⟨some 38, .move (.tmp 2), 28, _, _, none⟩) (v := .slice a n c) rfl (by kernel_rfl) (by kernel_rfl) (by kernel_rfl) (fun _ _ _ h => h) (Or.inl ⟨by rfl, fun _ _ => by go_simp⟩) HS.out ?_
        refine wpAnyH_take (i := 3) (oi := ⟨some 39, .move (.tmp 3), 28, _, _, none⟩) (v := .slice b m d) rfl (by kernel_rfl) (by kernel_rfl) (by kernel_rfl) (fun _ _ _ h => h) (Or.inl ⟨by rfl, fun _ _ => by go_simp⟩) HS.out ?_
        try simp only [Act.put, List.setIfInBounds_toArray, List.set_cons_succ, List.set_cons_zero]
        refine wpAnyH_ready (rs := [4]) (by kernel_rfl) (by simp) ?_
        refine AllReadyH.cons (o := ⟨some 40, .call { callee := .value (.func 50), args := #[.tmp 36, .tmp 37, .tmp 38, .tmp 39], argTypes := #[28, 28, 28, 28] }, _, _, _, none⟩) rfl (fun K hK => ?_) AllReadyH.nil
        go_simp
        refine (ropen_walk key nonce ad plain HKL.out HNL.out _ _ _ _ _ _ _ _ _ _ _ _ M HMM.out v0 TKb.out TNb.out HA4.out HP4.out (by have := HAL.out; omega) (by have := HPL.out; omega)).mono ?_
        rintro e v1 ⟨hb, hor⟩
        obtain ⟨a6, c6, rfl, hT6⟩ : ∃ a6 c6, e = .returned (.tuple #[.slice a6 M c6, .int .i64 0]) ∧ Txt v1 a6 M c6 (coverL (encK key) nonce (plain.take M)) := by
          rcases hor with h | h
          · exact h.2
          · exact absurd HTG.out h.1
        have TJ4 := Lib.hid (TJ4.out.on hb)
        have HA4 := Lib.hid (HA4.out.on hb)
        have HP4 := Lib.hid (HP4.out.on hb)
        have TKb := Lib.hid (TKb.out.on hb)
        have TNb := Lib.hid (TNb.out.on hb)
        have TO4 := Lib.hid (TO4.out.on hb)
        have HS := Lib.hid (HS.out.trans (hb.mono HS.out.size))
        have TR := Lib.hid (hT6)
        clear hb hor hT6
        refine hK _ _ HS.out (fun _ => ?_)
        clear hK K
        refine wpAnyH_take (i := 5) (oi := ⟨some 35, .move (.tmp 40), _, _, _, none⟩) (v := .tuple #[.slice a6 M c6, .int .i64 0]) rfl (by kernel_rfl) (by kernel_rfl) (by kernel_rfl) (fun _ _ _ h => h) (Or.inl ⟨by rfl, fun _ _ => by go_simp⟩) HS.out ?_
        refine wpAnyH_take (i := 6) (oi := ⟨some 41, .extract (.tmp 35) 0, 28, _, _, none⟩) (v := .slice a6 M c6) rfl (by kernel_rfl) (by kernel_rfl) (by kernel_rfl) (fun _ _ _ h => h) (Or.inl ⟨by rfl, fun _ _ => by go_simp⟩) HS.out ?_
        refine wpAnyH_take (i := 7) (oi := ⟨some 42, .extract (.tmp 35) 1, 37, _, _, none⟩) (v := .int .i64 0) rfl (by kernel_rfl) (by kernel_rfl) (by kernel_rfl) (fun _ _ _ h => h) (Or.inl ⟨by rfl, fun _ _ => by go_simp⟩) HS.out ?_
        refine wpAnyH_take (i := 8) (oi := ⟨some 12, .assign (.tmp 41), 28, _, _, none⟩) (v := .slice a6 M c6) rfl (by kernel_rfl) (by kernel_rfl) (by kernel_rfl) (fun _ _ _ h => h) (Or.inl ⟨by rfl, fun _ _ => by go_simp⟩) HS.out ?_
        refine wpAnyH_take (i := 9) (oi := ⟨some 13, .assign (.tmp 42), 37, _, _, none⟩) (v := .int .i64 0) rfl (by kernel_rfl) (by kernel_rfl) (by kernel_rfl) (fun _ _ _ h => h) (Or.inl ⟨by rfl, fun _ _ => by go_simp⟩) HS.out ?_
        try simp only [Act.put, List.setIfInBounds_toArray, List.set_cons_succ, List.set_cons_zero]
        refine wpAnyH_done (by kernel_rfl) ?_ _
        have HB5 := Lib.hid (HX4.out.b.trans (HS.out.mono HX4.out.b.size))
        go_wp2_with fail
        refine (equal_q _ _ _ _ _ _ _ v1 TO4.out TR.out).mono ?_
        rintro e w7 ⟨rfl, hw⟩
        obtain ⟨w8, rfl⟩ : ∃ w8, w8 = w7 := ⟨_, rfl⟩
        subst hw
        go_wp2_with fail
        refine (equal_q _ _ _ _ _ _ plain w8 TJ4.out HP4.out).mono ?_
        rintro e w9 ⟨rfl, hw⟩
        subst hw
        go_wp2
        go_ret
        exact ⟨rfl, HB5.out⟩
      · have HTG := Lib.hid htg
        have HMM := Lib.hid hM
        clear htg hm hM
        go_enter Tryd.func12, Tryd.ntmps12
        go_wp2_with fail
        refine (live4_walk _ HT0.out).mono ?_
        rintro e w1 ⟨rfl, hb⟩
        have HX1 := Lib.hid (HX0.out.on hb)
        have HA1 := Lib.hid (HA0.out.on hb)
        have HP1 := Lib.hid (HP0.out.on hb)
        have HT1 := Lib.hid (HT0.out.on hb)
        clear hb HX0 HA0 HP0 HT0
        go_wp2_with fail
        refine (few4_two w1 28 _ rfl HA1.out HP1.out true HF.out).mono ?_
        rintro e w2 ⟨rfl, hw2⟩
        have hb : Below w1.heap.size w1 w2 := by rw [hw2]; exact below_one' w1 _
        clear hw2
        have HX2 := Lib.hid (HX1.out.on hb)
        have HA2 := Lib.hid (HA1.out.on hb)
        have HP2 := Lib.hid (HP1.out.on hb)
        have HT2 := Lib.hid (HT1.out.on hb)
        clear hb HX1 HA1 HP1 HT1
        go_wp2_with fail
        refine (join1 w2 28 _ rfl HP2.out (by have := HPL.out; omega)).mono ?_
        rintro e w3 ⟨a3, n3, c3, rfl, hO, hb⟩
        have HX3 := Lib.hid (HX2.out.on hb)
        have HA3 := Lib.hid (HA2.out.on hb)
        have HP3 := Lib.hid (HP2.out.on hb)
        have HT3 := Lib.hid (HT2.out.on hb)
        clear hb HX2 HA2 HP2 HT2
        obtain rfl : m = n3 := by rw [HM.out]; exact hO.len.symm
        have TJ3 := Lib.hid hO.txt
        clear hO
        go_wp2_with (first | (refine wpList_load_row rfl 31 (.tmp 4) rfl w.heap.size rfl 31 _ _ _ HX3.out.k Tryd.underlying31 rfl HS1.out ?_) | (refine wpList_load_row rfl 62 (.tmp 5) rfl (w.heap.size + 1) rfl 62 _ _ _ HX3.out.n Tryd.underlying62 rfl HS2.out ?_))
        refine (open_walk key nonce ad plain HKL.out HNL.out _ _ _ _ _ _ M HMM.out w3 HA3.out TJ3.out HT3.out (by have := HAL.out; omega) (by have := HPL.out; omega)).mono ?_
        rintro e w4 ⟨hb, hor⟩
        obtain rfl : e = .returned (.tuple #[.slice none 0 0, .int .i64 40]) := by
          rcases hor with h | h
          · exact absurd h.1 HTG.out
          · exact h.2
        have HX4 := Lib.hid (HX3.out.on hb)
        have HA4 := Lib.hid (HA3.out.on hb)
        have HP4 := Lib.hid (HP3.out.on hb)
        have HT4 := Lib.hid (HT3.out.on hb)
        have TJ4 := Lib.hid (TJ3.out.on hb)
        clear hb HX3 HA3 HP3 HT3 TJ3
        clear hor
        have TKb := Lib.hid (out32 HX4.out.k HKL.out (Below.refl _ _))
        have TNb := Lib.hid (by have h := Txt.of_blk HX4.out.n; rw [HNL.out] at h; exact h)
        go_wp2
        refine wp_region_held_drew (S := fun w' => Below w4.heap.size w4 w') (by kernel_rfl) (Below.refl _ _).drew (fun _ => ?_)
        have HS := Lib.hid ((Below.refl w4.heap.size w4).drew)
        have TJ4 := Lib.hid (TJ4.out.on (HS.out))
        have HA4 := Lib.hid (HA4.out.on (HS.out))
        have HP4 := Lib.hid (HP4.out.on (HS.out))
        have TKb := Lib.hid (TKb.out.on (HS.out))
        have TNb := Lib.hid (TNb.out.on (HS.out))
        generalize World.drew w4 = v0 at *
        refine wpAnyH_take (i := 0) (oi := ⟨some 36, .slice 31 (.tmp 4) none none none, 28, _, _, none⟩) (v := .slice (some ⟨w.heap.size, 0, none⟩) 32 32) rfl (by kernel_rfl) (by kernel_rfl) (by kernel_rfl) (fun _ _ _ h => h) (Or.inl ⟨by rfl, fun _ _ => by go_simp⟩) HS.out ?_
        refine wpAnyH_take (i := 1) (oi := ⟨some 37, .slice 62 (.tmp 5) none none none, 28, _, _, none⟩) (v := .slice (some ⟨w.heap.size + 1, 0, none⟩) 12 12) rfl (by kernel_rfl) (by kernel_rfl) (by kernel_rfl) (fun _ _ _ h => h) (Or.inl ⟨by rfl, fun _ _ => by go_simp⟩) HS.out ?_
        refine wpAnyH_take (i := 2) (oi := ⟨some 38, .move (.tmp 2), 28, _, _, none⟩) (v := .slice a n c) rfl (by kernel_rfl) (by kernel_rfl) (by kernel_rfl) (fun _ _ _ h => h) (Or.inl ⟨by rfl, fun _ _ => by go_simp⟩) HS.out ?_
        refine wpAnyH_take (i := 3) (oi := ⟨some 39, .move (.tmp 3), 28, _, _, none⟩) (v := .slice b m d) rfl (by kernel_rfl) (by kernel_rfl) (by kernel_rfl) (fun _ _ _ h => h) (Or.inl ⟨by rfl, fun _ _ => by go_simp⟩) HS.out ?_
        try simp only [Act.put, List.setIfInBounds_toArray, List.set_cons_succ, List.set_cons_zero]
        refine wpAnyH_ready (rs := [4]) (by kernel_rfl) (by simp) ?_
        refine AllReadyH.cons (o := ⟨some 40, .call { callee := .value (.func 50), args := #[.tmp 36, .tmp 37, .tmp 38, .tmp 39], argTypes := #[28, 28, 28, 28] }, _, _, _, none⟩) rfl (fun K hK => ?_) AllReadyH.nil
        go_simp
        refine (ropen_walk key nonce ad plain HKL.out HNL.out _ _ _ _ _ _ _ _ _ _ _ _ M HMM.out v0 TKb.out TNb.out HA4.out HP4.out (by have := HAL.out; omega) (by have := HPL.out; omega)).mono ?_
        rintro e v1 ⟨hb, hor⟩
        obtain rfl : e = .returned (.tuple #[.slice none 0 0, .int .i64 40]) := by
          rcases hor with h | h
          · exact absurd h.1 HTG.out
          · exact h.2
        have TJ4 := Lib.hid (TJ4.out.on hb)
        have HA4 := Lib.hid (HA4.out.on hb)
        have HP4 := Lib.hid (HP4.out.on hb)
        have TKb := Lib.hid (TKb.out.on hb)
        have TNb := Lib.hid (TNb.out.on hb)
        have HS := Lib.hid (HS.out.trans (hb.mono HS.out.size))
        clear hb hor
        refine hK _ _ HS.out (fun _ => ?_)
        clear hK K
        refine wpAnyH_take (i := 5) (oi := ⟨some 35, .move (.tmp 40), _, _, _, none⟩) (v := .tuple #[.slice none 0 0, .int .i64 40]) rfl (by kernel_rfl) (by kernel_rfl) (by kernel_rfl) (fun _ _ _ h => h) (Or.inl ⟨by rfl, fun _ _ => by go_simp⟩) HS.out ?_
        refine wpAnyH_take (i := 6) (oi := ⟨some 41, .extract (.tmp 35) 0, 28, _, _, none⟩) (v := .slice none 0 0) rfl (by kernel_rfl) (by kernel_rfl) (by kernel_rfl) (fun _ _ _ h => h) (Or.inl ⟨by rfl, fun _ _ => by go_simp⟩) HS.out ?_
        refine wpAnyH_take (i := 7) (oi := ⟨some 42, .extract (.tmp 35) 1, 37, _, _, none⟩) (v := .int .i64 40) rfl (by kernel_rfl) (by kernel_rfl) (by kernel_rfl) (fun _ _ _ h => h) (Or.inl ⟨by rfl, fun _ _ => by go_simp⟩) HS.out ?_
        refine wpAnyH_take (i := 8) (oi := ⟨some 12, .assign (.tmp 41), 28, _, _, none⟩) (v := .slice none 0 0) rfl (by kernel_rfl) (by kernel_rfl) (by kernel_rfl) (fun _ _ _ h => h) (Or.inl ⟨by rfl, fun _ _ => by go_simp⟩) HS.out ?_
        refine wpAnyH_take (i := 9) (oi := ⟨some 13, .assign (.tmp 42), 37, _, _, none⟩) (v := .int .i64 40) rfl (by kernel_rfl) (by kernel_rfl) (by kernel_rfl) (fun _ _ _ h => h) (Or.inl ⟨by rfl, fun _ _ => by go_simp⟩) HS.out ?_
        try simp only [Act.put, List.setIfInBounds_toArray, List.set_cons_succ, List.set_cons_zero]
        refine wpAnyH_done (by kernel_rfl) ?_ _
        have HB5 := Lib.hid (HX4.out.b.trans (HS.out.mono HX4.out.b.size))
        go_wp2_with fail
        refine (equal_q _ _ _ _ _ _ _ v1 (Txt.nil _ _) (Txt.nil _ _)).mono ?_
        rintro e w7 ⟨rfl, hw⟩
        obtain ⟨w8, rfl⟩ : ∃ w8, w8 = w7 := ⟨_, rfl⟩
        subst hw
        go_wp2_with fail
        refine (equal_q _ _ _ _ _ _ plain w8 TJ4.out HP4.out).mono ?_
        rintro e w9 ⟨rfl, hw⟩
        subst hw
        go_wp2
        go_ret
        exact ⟨rfl, HB5.out⟩
  · have HF := Lib.hid (show fewOf 2000 [ad, plain] = false by simpa using hfew)
    clear hfew
    go_enter Tryd.func12, Tryd.ntmps12
    go_wp2_with fail
    refine (live4_walk _ HT0.out).mono ?_
    rintro e w1 ⟨rfl, hb1⟩
    have HA1 := Lib.hid (HA0.out.on hb1)
    have HP1 := Lib.hid (HP0.out.on hb1)
    have HB1 := Lib.hid (HX0.out.on hb1).b
    clear hb1
    go_wp2_with fail
    refine (few4_two w1 28 _ rfl HA1.out HP1.out false HF.out).mono ?_
    rintro e w2 ⟨rfl, hw2⟩
    have HB2 := Lib.hid (show Below w.heap.size w w2 by rw [hw2]; exact HB1.out.trans ((below_one' w1 _).mono HB1.out.size))
    clear hw2
    go_wp2_with fail
    refine (live4_again HTw.out HB2.out).mono ?_
    rintro e w3 ⟨rfl, hb3⟩
    go_wp2
    go_ret
    exact ⟨rfl, hb3⟩
end Go.Proofs.YtgbahfggnbpnmaaDoor
