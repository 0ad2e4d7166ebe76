import Derived.Test.YtgbahfggnbpnmaaDoorSealW
/-
  seal.Open.
-/
namespace Go.Proofs.YtgbahfggnbpnmaaDoor
open Go.RowKit
theorem slice_h {w : World} {a : Option Addr} {n c hi : Nat} {l : List UInt8} (h : Txt w a n c l) (h2 : hi ≤ n) :
    (∀ W : World, (Instr.sliceAt 28 (.slice a n c) none (some (.int .i64 hi)) none).run Tryd.prog W = .ok (.slice a hi c) W) := fun W => by
  have hf := h.fit
  rw [run_sliceAt_slice (h := under_u8s), run_slice_h (ht := under_u8s) (h0 := by omega) (h2 := by omega), elem_u8s, size_one]
  simp only [Result.andThen, sliced, Int.toNat_natCast, Nat.sub_zero, Nat.zero_mul]
  rcases a with _ | ⟨g, o, none | x⟩
  · simp
  · simp [Addr.add_mid]
  · simp [Addr.add]
set_option maxRecDepth 100000 in
theorem open_short (key nonce : List UInt8) (v1 : Value) (b : Option Addr) (m d : Nat) (hm : m < 32) (w : World) :
    Calls Tryd.prog 49 #[.agg (barr key), .agg (barr nonce), v1, .slice b m d] w fun e w' => e = .returned (.tuple #[.slice none 0 0, .int .i64 8]) ∧ Below w.heap.size w w' := by
  have HB := Lib.hid (below_two w (.cells (barr key) 31) (.cells (barr nonce) 62))
  have h1 : (m : Int) < 32 := by omega
  go_enter Tryd.func49, Tryd.ntmps49
  go_wp2
  go_ret2
  exact ⟨rfl, HB.out⟩
set_option maxRecDepth 100000 in
set_option maxHeartbeats 1000000 in
theorem open_walk (key nonce ad s : List UInt8) (hk : key.length = 32) (hnon : nonce.length = 12) (a b : Option Addr) (n c m d M : Nat) (hM : m = M + 32) (w : World) (hA : Txt w a n c ad) (hX : Txt w b m d s) (hT : Two w) (hl : ad.length ≤ 1048576) (hl2 : s.length ≤ 1048576) :
    Calls Tryd.prog 49 #[.agg (barr key), .agg (barr nonce), .slice a n c, .slice b m d] w fun e w' => Below w.heap.size w w' ∧ ((tagL (macK key) nonce ad (s.take M) = s.drop M ∧ ∃ g, e = .returned (.tuple #[.slice (some ⟨g, 0, none⟩) M M, .int .i64 0]) ∧ Txt w' (some ⟨g, 0, none⟩) M M (coverL (encK key) nonce (s.take M))) ∨ (tagL (macK key) nonce ad (s.take M) ≠ s.drop M ∧ e = .returned (.tuple #[.slice none 0 0, .int .i64 40]))) := by
  obtain ⟨q0, qb⟩ := new1 w (barr key) 31
  obtain ⟨q1, qb1⟩ := new1 (w.alloc (.cells (barr key) 31)) (barr nonce) 62
  have hsz : (w.alloc (.cells (barr key) 31)).heap.size = w.heap.size + 1 := by simp
  rw [hsz] at q1
  have HB0 := Lib.hid (qb.trans (qb1.mono qb.size))
  have HK0 := Lib.hid (q0.on qb1)
  have HN0 := Lib.hid q1
  have HA0 := Lib.hid (hA.on HB0.out)
  have hlen := hX.len
  have hle : M ≤ m := by omega
  have s1 := slice_h hX hle
  obtain ⟨AT, CT, s2, hTag⟩ := slice_l hX hle
  have e32 : m - M = 32 := by omega
  rw [e32] at s2 hTag
  have hTxt := hX.cut hle
  have HTag0 := Lib.hid (hTag.on HB0.out)
  have HTxt0 := Lib.hid (hTxt.on HB0.out)
  have HT0 := Lib.hid (hT.on HB0.out)
  have HS1 := Lib.hid (show (Tryd.prog.info? 31).map (·.size) = some (barr key).size by rw [barr_size, hk]; exact size_u8x32)
  have HS2 := Lib.hid (show (Tryd.prog.info? 62).map (·.size) = some (barr nonce).size by rw [barr_size, hnon]; exact size_u8x12)
  have HKL := Lib.hid hk
  have HNL := Lib.hid hnon
  have HML := Lib.hid (show (s.take M).length = M by rw [List.length_take]; omega)
  have HAL := Lib.hid hl
  have HM0 := Lib.hid (show M ≤ 1048576 by omega)
  have g1 : ¬ (m : Int) < 32 := by omega
  have f1 : IntKind.i64.wrap ((m : Int) - 32) = (M : Int) := by rw [show (m : Int) - 32 = (M : Int) by omega]; exact IntWalk.i64_in _ (by omega)
  obtain ⟨X, hXe⟩ : ∃ X, X = s.take M := ⟨_, rfl⟩
  obtain ⟨G, hGe⟩ : ∃ G, G = s.drop M := ⟨_, rfl⟩
  rw [← hXe] at HTxt0 HML
  rw [← hGe] at HTag0
  rw [← hXe, ← hGe]
  clear q0 qb q1 qb1 hsz hA hX hT hk hnon hl hl2 hlen hle e32 hTxt hTag hXe hGe hM
  go_enter Tryd.func49, Tryd.ntmps49
  go_wp2
  go_quiet (fail)
  obtain ⟨W1, hW1⟩ : ∃ W1, W1 = ((w.alloc (.cells (barr key) 31)).alloc (.cells (barr nonce) 62)).drewN nq := ⟨_, rfl⟩
  have hq : Below ((w.alloc (.cells (barr key) 31)).alloc (.cells (barr nonce) 62)).heap.size ((w.alloc (.cells (barr key) 31)).alloc (.cells (barr nonce) 62)) W1 := by rw [hW1]; exact below_drewN (Below.refl _ _) nq
  have HK1 := Lib.hid (HK0.out.on hq)
  have HN1 := Lib.hid (HN0.out.on hq)
  have HA1 := Lib.hid (HA0.out.on hq)
  have HX1 := Lib.hid (HTxt0.out.on hq)
  have HG1 := Lib.hid (HTag0.out.on hq)
  have HT1 := Lib.hid (HT0.out.on hq)
  have HB1 := Lib.hid (HB0.out.trans (hq.mono HB0.out.size))
  rw [← hW1]
  clear hW1 hq HK0 HN0 HA0 HTxt0 HTag0 HT0 HB0 s1 s2
  go_wp2_with (refine wpList_load_row rfl 31 (.tmp 4) rfl w.heap.size rfl 31 _ _ _ HK1.out Tryd.underlying31 rfl HS1.out ?_)
  refine (keys_walk key HKL.out _ HT1.out).mono ?_
  rintro e w2 ⟨a1, c1, a2, c2, rfl, hE, hM, hb1⟩
  have HE2 := Lib.hid hE
  have HM2 := Lib.hid hM
  have HN2 := Lib.hid (HN1.out.on hb1)
  have HA2 := Lib.hid (HA1.out.on hb1)
  have HX2 := Lib.hid (HX1.out.on hb1)
  have HG2 := Lib.hid (HG1.out.on hb1)
  have HT2 := Lib.hid (HT1.out.on hb1)
  have HB2 := Lib.hid (HB1.out.trans (hb1.mono HB1.out.size))
  clear hE hM hb1 HK1 HN1 HA1 HX1 HG1 HT1 HB1
  go_wp2_with (refine wpList_load_row rfl 62 (.tmp 5) rfl (w.heap.size + 1) rfl 62 _ _ _ HN2.out Tryd.underlying62 rfl HS2.out ?_)
  refine (tag_walk (macK key) nonce ad X HNL.out a2 a b 32 c2 n c M d w2 HM2.out HA2.out HX2.out HT2.out (by rw [macK_len]; omega) (by have := HAL.out; omega) (by have := HML.out; have := HM0.out; omega)).mono ?_
  rintro e w3 ⟨he, hb3⟩
  obtain ⟨T, hT⟩ : ∃ T, T = tagL (macK key) nonce ad X := ⟨_, rfl⟩
  rw [← hT] at he
  subst he
  have HTe := Lib.hid hT
  have HTL := Lib.hid (show T.length = 32 by rw [hT, tagL_len])
  have HE3 := Lib.hid (HE2.out.on hb3)
  have HN3 := Lib.hid (HN2.out.on hb3)
  have HX3 := Lib.hid (HX2.out.on hb3)
  have HG3 := Lib.hid (HG2.out.on hb3)
  have HT3 := Lib.hid (HT2.out.on hb3)
  have HB3 := Lib.hid (HB2.out.trans (hb3.mono HB2.out.size))
  clear hT hb3 HE2 HM2 HN2 HA2 HX2 HG2 HT2 HB2
  go_wp2_with (first | (refine wpList_store_abs rfl 31 (.tmp 14) (.tmp 37) rfl w3.heap.size (barr T) (by rfl) (by rfl) 31 _ (Blk.new w3 _ _) (by rw [barr_size, HTL.out]; exact size_u8x32) (by rw [barr_size, HTL.out]; rfl) (barr_one_all _) ?_; intro W4 hW4 p4; have hb4 := Lib.hid (hW4.below (below_one' w3 _) (Nat.le_refl _)); have TT := Lib.hid (out32 p4 HTL.out (Below.refl _ _)); clear hW4 p4))
  refine (same_walk T G _ _ 32 32 32 CT W4 TT.out (HG3.out.on hb4.out) (by omega)).mono ?_
  rintro e w5 ⟨he, hb5⟩
  have hq := hb4.out.trans (hb5.mono hb4.out.size)
  have HE5 := Lib.hid (HE3.out.on hq)
  have HN5 := Lib.hid (HN3.out.on hq)
  have HX5 := Lib.hid (HX3.out.on hq)
  have HT5 := Lib.hid (HT3.out.on hq)
  have HB5 := Lib.hid (HB3.out.trans (hq.mono HB3.out.size))
  clear hq hb5 hb4 TT HE3 HN3 HX3 HG3 HT3 HB3
  by_cases htg : T = G
  · rw [decide_eq_true htg] at he
    subst he
    have HTG := Lib.hid htg
    clear htg
    go_wp2_with (refine wpList_load_row rfl 62 (.tmp 5) rfl (w.heap.size + 1) rfl 62 _ _ _ HN5.out Tryd.underlying62 rfl HS2.out ?_)
    refine (cover_walk (encK key) nonce X HNL.out a1 b 32 c1 M d (by have := HM0.out; omega) w5 HE5.out HX5.out HT5.out (by rw [encK_len]; omega)).mono ?_
    rintro e w6 ⟨g6, rfl, hg6, hC, hb6⟩
    have HC := Lib.hid (by have h := Txt.of_blk hC; rw [coverL_len, HML.out] at h; exact h)
    have HB6 := Lib.hid (HB5.out.trans (hb6.mono HB5.out.size))
    clear hg6 hC hb6
    go_wp2
    go_ret2
    exact ⟨HB6.out,   .inl ⟨by rw [← HTe.out]; exact HTG.out, g6, rfl, HC.out⟩⟩
  · rw [decide_eq_false htg] at he
    subst he
    have HTG := Lib.hid htg
    clear htg
    go_wp2
    go_ret2
    exact ⟨HB5.out, .inr ⟨by rw [← HTe.out]; exact HTG.out, rfl⟩⟩
end Go.Proofs.YtgbahfggnbpnmaaDoor
