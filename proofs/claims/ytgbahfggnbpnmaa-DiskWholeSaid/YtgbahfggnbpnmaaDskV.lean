import Derived.Test.YtgbahfggnbpnmaaDskK
/-
  live of liverylaw17.
-/
namespace Go.Proofs.Ytgbahfggnbpnmaa
open Go.RowKit
def v0S : DS := newS 8
def v1S : DS := (v0S.write 0 (blockL 1)).2
def v2S : DS := (v1S.write 0 (blockL 2)).2
def v3S : DS := v2S.crash [false, true]
def v4S : DS := (v3S.arm 0).2
def v5S : DS := v4S.sync.2
theorem v1_e : (v0S.write 0 (blockL 1)).1 = 0 := by decide +kernel
theorem v2_e : (v1S.write 0 (blockL 2)).1 = 0 := by decide +kernel
theorem v3_r : v3S.read 0 = (blockL 2, 0) := by decide +kernel
theorem v4_e : (v3S.arm 0).1 = 0 := by decide +kernel
theorem v5_e : v4S.sync.1 = 5 := by decide +kernel
theorem v5_g : v5S.gone = true := by decide +kernel
theorem v_ops : v0S.ops ≤ 10 ∧ v1S.ops ≤ 10 ∧ v2S.ops ≤ 10 ∧ v4S.ops ≤ 10 := by decide +kernel
theorem v_wait : v0S.wait.length ≤ 10 ∧ v1S.wait.length ≤ 10 ∧ v2S.wait.length ≤ 10 ∧ v3S.wait.length ≤ 10 ∧ v4S.wait.length ≤ 10 := by decide +kernel
theorem foot_new {lo b g m : Nat} {v v' : Value} (hF : ∀ k, Foot b g v k → lo ≤ k) (hlo : lo ≤ m) (hv : ∀ k, v'.ownBlock = some k → v.ownBlock = some k ∨ m ≤ k) : ∀ k, Foot b g v' k → lo ≤ k := fun k hk => by
  rcases hk with h | h | h
  · exact hF k (.inl h)
  · exact hF k (.inr (.inl h))
  · rcases hv k h with q | q
    · exact hF k (.inr (.inr q))
    · omega
theorem blk_txt {w : World} {g : Nat} {x : UInt8} (h : Blk w g (barr (blockL x)) 5) : Txt w (some ⟨g, 0, none⟩) 256 256 (blockL x) := by
  have := Txt.of_blk h
  rwa [blockL_len] at this
set_option maxRecDepth 100000 in
set_option maxHeartbeats 2000000 in
theorem live17_walk (w : World) : Calls Try.prog 11 #[] w fun e w' => e = .returned (.bool true) ∧ Below w.heap.size w w' := by
  go_enter Try.func11, Try.ntmps11
  go_wp2_with fail
  refine (dnew_walk 8 (by omega) _).mono ?_
  rintro e w1 ⟨b, g, rfl, hbl, hgl, hD, hb⟩
  have HD1 := Lib.hid (show DiskAt w1 b g 8 (.slice none 0 0) v0S from hD)
  have HB1 := Lib.hid hb
  have HF1 := Lib.hid (show ∀ k, Foot b g (.slice none 0 0) k → w.heap.size ≤ k from fun k hk => by rcases hk with rfl | rfl | e; exact hbl; exact hgl; cases e)
  clear hD hb hbl hgl
  go_wp2_with fail
  refine (block_walk 1 _).mono ?_
  rintro e w2 ⟨g1, rfl, hB, hge, hb⟩
  have HD2 := Lib.hid (HD1.out.on hb)
  have HB2 := Lib.hid (HB1.out.trans (hb.mono HB1.out.size))
  have HT := Lib.hid (blk_txt hB)
  clear hB hge hb HD1 HB1
  go_wp2_with fail
  refine (dwrite_at 0 _ 256 256 (blockL 1) _ HD2.out (by have := v_ops.1; omega) (by have := v_wait.1; omega) HT.out).mono ?_
  rintro e w3 ⟨rfl, v3, hD, hO, hv⟩
  rw [v1_e]
  have HD3 := Lib.hid (show DiskAt w3 b g 8 v3 v1S from hD)
  have HB3 := Lib.hid (HB2.out.trans (hO.below HF1.out HB2.out.size))
  have HF3 := Lib.hid (foot_new HF1.out HB2.out.size hv)
  clear hD hO hv HT HD2 HF1
  go_wp2_with fail
  refine (block_walk 2 _).mono ?_
  rintro e w4 ⟨g2, rfl, hB, hge, hb⟩
  have HD4 := Lib.hid (HD3.out.on hb)
  have HB4 := Lib.hid (HB3.out.trans (hb.mono HB3.out.size))
  have HT := Lib.hid (blk_txt hB)
  clear hB hge hb HD3 HB3 HB2
  go_wp2_with fail
  refine (dwrite_at 0 _ 256 256 (blockL 2) _ HD4.out (by have := v_ops.2.1; omega) (by have := v_wait.2.1; omega) HT.out).mono ?_
  rintro e w5 ⟨rfl, v5, hD, hO, hv⟩
  rw [v2_e]
  have hb := below_one' w5 (.cells #[.bool false, .bool true] 4)
  have HB5 := Lib.hid ((HB4.out.trans (hO.below HF3.out HB4.out.size)).trans (hb.mono (Nat.le_trans HB4.out.size hO.size)))
  have HF5 := Lib.hid (foot_new HF3.out HB4.out.size hv)
  have HD5 := Lib.hid (show DiskAt w5 b g 8 v5 v2S from hD)
  have HD5' := Lib.hid (HD5.out.on hb)
  have HP := Lib.hid (Blk.new w5 #[.bool false, .bool true] 4)
  clear hD hO hv HT HD4 HF3 hb
  go_wp2_with fail
  generalize w5.heap.size = gp at *
  generalize w5.alloc _ = w6 at *
  refine (dcrash_at (some ⟨gp, 0, none⟩) 2 2 [false, true] rfl _ HD5'.out (by have := v_wait.2.2.1; omega) (fun i hi => ⟨gp, 0, rfl, HP.out.lt, by
    have : i = 0 ∨ i = 1 := by simp at hi; omega
    rcases this with rfl | rfl
    · exact HP.out.cell 0 rfl
    · exact HP.out.cell 1 rfl⟩)).mono ?_
  rintro e w7 ⟨⟨u, rfl⟩, v7, hD, hO, hv⟩
  have HD7 := Lib.hid (show DiskAt w7 b g 8 v7 v3S from hD)
  have HB7 := Lib.hid (HB5.out.trans (hO.below HF5.out HB5.out.size))
  have HF7 := Lib.hid (foot_new HF5.out (Nat.le_refl w.heap.size) (fun k e => .inl (hv k e)))
  clear hD hO hv HD5 HD5' HP HF5
  go_wp2_with fail
  refine (dread_at 0 _ HD7.out (by have := v_wait.2.2.2.1; omega)).mono ?_
  rintro e w8 ⟨u8, rfl, hO, hb⟩
  rw [show v3S.read 0 = (blockL 2, 0) from v3_r] at hO ⊢
  obtain ⟨a8, c8, rfl, _⟩ := hO.form
  have HD8 := Lib.hid (HD7.out.on hb)
  have HB8 := Lib.hid (HB7.out.trans (hb.mono HB7.out.size))
  have HT8 := Lib.hid hO.txt
  clear hO hb HD7 HB7
  go_wp2_with fail
  refine (block_walk 2 _).mono ?_
  rintro e w9 ⟨g9, rfl, hB, hge, hb⟩
  have HD9 := Lib.hid (HD8.out.on hb)
  have HB9 := Lib.hid (HB8.out.trans (hb.mono HB8.out.size))
  have HT9 := Lib.hid (blk_txt hB)
  have HT8 := Lib.hid (HT8.out.below hb)
  clear hB hge hb HD8 HB8
  go_wp2_with fail
  refine (equal_q _ _ _ _ _ _ (blockL 2) _ HT8.out HT9.out).mono ?_
  rintro e w10 ⟨rfl, rfl⟩
  go_wp2_with fail
  refine (darm_at 0 (by omega) _ HD9.out).mono ?_
  rintro e w11 ⟨rfl, hD, hO⟩
  rw [v4_e]
  have HD11 := Lib.hid (show DiskAt w11 b g 8 v7 v4S from hD)
  have HB11 := Lib.hid (HB9.out.trans (hO.below (fun k hk => HF7.out k (.inl hk)) HB9.out.size))
  clear hD hO HD9 HB9 HT8 HT9
  go_wp2_with fail
  refine (dsync_at _ HD11.out (by have := v_ops.2.2.2; omega) (by have := v_wait.2.2.2.2; omega)).mono ?_
  rintro e w12 ⟨rfl, v12, hD, hO, hv⟩
  rw [v5_e]
  have HD12 := Lib.hid (show DiskAt w12 b g 8 v12 v5S from hD)
  have HB12 := Lib.hid (HB11.out.trans (hO.below HF7.out HB11.out.size))
  clear hD hO hv HD11 HB11
  go_wp2_with fail
  refine (don_at _ HD12.out).mono ?_
  rintro e w13 ⟨rfl, rfl⟩
  rw [v5_g]
  go_wp2
  go_ret
  exact ⟨rfl, HB12.out⟩
end Go.Proofs.Ytgbahfggnbpnmaa
