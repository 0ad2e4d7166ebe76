import Derived.Test.YtgbahfggnbpnmaaDoorRot
/-
  The walk of sha2.schedule: the 64 words of a block.
-/
namespace Go.Proofs.YtgbahfggnbpnmaaDoor
open Go.RowKit

/-- The words so far, zeros behind them. -/
def wz (b : List UInt8) (k : Nat) : List UInt32 := wl b k ++ List.replicate (64 - k) 0
theorem wz_len (b : List UInt8) (k : Nat) (h : k ≤ 64) : (wz b k).length = 64 := by simp [wz, wl_len]; omega
theorem wz_get (b : List UInt8) (k i : Nat) (h : i < k) : (wz b k).getD i 0 = (wl b k).getD i 0 := by
  simp only [wz, List.getD_eq_getElem?_getD]; rw [List.getElem?_append_left (by rw [wl_len]; exact h)]
theorem wz_set (b : List UInt8) (k : Nat) (h : k < 64) : (wz b k).set k (nextw b (wl b k) k) = wz b (k + 1) := by
  have e : List.replicate (64 - k) (0 : UInt32) = 0 :: List.replicate (64 - (k + 1)) 0 := by
    rw [show 64 - k = (64 - (k + 1)) + 1 by omega]; rfl
  unfold wz
  rw [e]
  simp only [wl]
  rw [List.set_append_right _ _ (by rw [wl_len]; omega)]
  simp [wl_len]
theorem wz_zero (b : List UInt8) : wz b 0 = List.replicate 64 0 := rfl
theorem wz_full (b : List UInt8) : wz b 64 = wl b 64 := by simp [wz]
theorem wz_step (b : List UInt8) (k : Nat) (h : k < 64) {z : Int} (hz : z = (nextw b (wl b k) k).toNat) : (warr (wz b k)).setIfInBounds k (.int .u32 z) = warr (wz b (k + 1)) := by
  subst hz; rw [warr_set, wz_set b k h]

theorem word_walk (b0 b1 b2 b3 : UInt8) : bits .or .u32 (bits .or .u32 (bits .or .u32 ((b0.toNat : Int) % 4294967296 * 16777216 % 4294967296) ((b1.toNat : Int) % 4294967296 * 65536 % 4294967296)) ((b2.toNat : Int) % 4294967296 * 256 % 4294967296)) ((b3.toNat : Int) % 4294967296) =
    ((b0.toUInt32 <<< 24 ||| b1.toUInt32 <<< 16 ||| b2.toUInt32 <<< 8 ||| b3.toUInt32).toNat : Int) := by
  rw [u32_cast b0, u32_cast b1, u32_cast b2, u32_cast b3]
  have e0 := u32_shl b0.toUInt32 24 (by omega)
  have e1 := u32_shl b1.toUInt32 16 (by omega)
  have e2 := u32_shl b2.toUInt32 8 (by omega)
  simp only [show (2 : Int) ^ 24 = 16777216 from rfl, show (2 : Int) ^ 16 = 65536 from rfl, show (2 : Int) ^ 8 = 256 from rfl] at e0 e1 e2
  rw [e0, e1, e2, u32_or, u32_or, u32_or]
  rfl

theorem next_walk (y w7 x w16 : UInt32) :
    (bits .xor .u32 (bits .xor .u32 ((rotr 17 y).toNat : Int) ((rotr 19 y).toNat : Int)) ((y.toNat : Int) / 1024) + (w7.toNat : Int) +
      bits .xor .u32 (bits .xor .u32 ((rotr 7 x).toNat : Int) ((rotr 18 x).toNat : Int)) ((x.toNat : Int) / 8) + (w16.toNat : Int)) % 4294967296 = ((sg1 y + w7 + sg0 x + w16).toNat : Int) := by
  have e0 := u32_shr y 10 (by omega)
  have e1 := u32_shr x 3 (by omega)
  simp only [show (2 : Int) ^ 10 = 1024 from rfl, show (2 : Int) ^ 3 = 8 from rfl] at e0 e1
  rw [e0, e1, u32_xor, u32_xor, u32_xor, u32_xor]
  rw [show rotr 17 y ^^^ rotr 19 y ^^^ y >>> UInt32.ofNat 10 = sg1 y from rfl, show rotr 7 x ^^^ rotr 18 x ^^^ x >>> UInt32.ofNat 3 = sg0 x from rfl]
  generalize sg1 y = p
  generalize sg0 x = q
  simp only [UInt32.toNat_add]
  omega
theorem size_u32x64 : (Tryd.prog.info? 134).map (·.size) = some 64 := by kernel_rfl
theorem size_u32x8 : (Tryd.prog.info? 23).map (·.size) = some 8 := by kernel_rfl
theorem size_u8x64 : (Tryd.prog.info? 24).map (·.size) = some 64 := by kernel_rfl

set_option maxRecDepth 100000 in
set_option maxHeartbeats 1000000 in
theorem sched_walk (b : List UInt8) (hb : b.length = 64) (w : World) :
    Calls Tryd.prog 93 #[.agg (barr b)] w fun e w' => e = .returned (.agg (warr (wl b 64))) ∧ Below w.heap.size w w' := by
  go_enter Tryd.func93, Tryd.ntmps93
  go_wp2
  go_loopw [10] (fun c wr => ∃ k : Nat, k ≤ 16 ∧ c = .int .i64 k ∧ Blk wr w.heap.size (barr b) 24 ∧ Blk wr (w.heap.size + 1) (warr (wz b 0)) 134 ∧ Blk wr (w.heap.size + 1 + 1) (warr (wz b k)) 134 ∧ Below w.heap.size w wr) (fun c _ => 16 - (intOf c).toNat)
  case atStart =>
    obtain ⟨h0, h1, h2, h3⟩ := new3 w (barr b) (warr (wz b 0)) (warr (wz b 0)) 24 134 134
    exact ⟨0, Nat.zero_le _, rfl, h0, h1, h2, h3⟩
  case round =>
    obtain ⟨k, hk, rfl, hB0, hB1, hB2, hbel⟩ := hrel
    by_cases hlt : k < 16
    · have c0 := hB0.cell (4 * k) (barr_get b _ (by omega))
      have c1 := hB0.cell (4 * k + 1) (barr_get b _ (by omega))
      have c2 := hB0.cell (4 * k + 2) (barr_get b _ (by omega))
      have c3 := hB0.cell (4 * k + 3) (barr_get b _ (by omega))
      have c4 := hB2.cell k (warr_get (wz b k) _ (by rw [wz_len _ _ (by omega)]; omega))
      have c5 := hB2.free k
      go_wp2
      go_region
      go_wp2
      go_roundw
      case rel =>
        refine ⟨k + 1, by omega, by go_num, (hB0.set' _ _ (by omega)).drew, (hB1.set' _ _ (by omega)).drew, ?_, (below_setCell hbel (by omega) _).drew⟩
        rw [← wz_step b k (by omega) ((word_walk (b[4 * k]?.getD 0) (b[4 * k + 1]?.getD 0) (b[4 * k + 2]?.getD 0) (b[4 * k + 3]?.getD 0)).trans (by rw [nextw, if_pos hlt]; simp [word]))]
        exact (hB2.set _ _).drew
      case measure => simp [intOf]; omega
    · have hd : decide ((k : Int) < 16) = false := by simp; omega
      have HK := Lib.hid (show k = 16 by omega)
      have hk16 : 16 ≤ k := by omega
      clear hlt hk
      go_wp2
      obtain ⟨wo, HW⟩ : ∃ wo, Hid (wo = wr) := ⟨wr, rfl⟩
      go_loopw [5] (fun c wr => ∃ j : Nat, 16 ≤ j ∧ j ≤ 64 ∧ c = .int .i64 j ∧ Blk wr (w.heap.size + 1) (warr (wz b 0)) 134 ∧ Blk wr (w.heap.size + 1 + 1) (warr (wz b j)) 134 ∧ Below w.heap.size w wr) (fun c _ => 64 - (intOf c).toNat)
      case atStart => exact ⟨k, hk16, by rw [HK.out]; omega, by rw [HK.out]; rfl, hB1, hB2, hbel⟩
      case round =>
        clear hB0 hB1 hB2 hbel hd HK hk16
        obtain ⟨k, hk0, hk, rfl, hB1, hB2, hbel⟩ := hrel
        by_cases hlt : k < 64
        · have hl := wz_len b k hk
          have d0 := hB2.cell (k - 15) (warr_get (wz b k) _ (by omega))
          have d1 := hB2.cell (k - 2) (warr_get (wz b k) _ (by omega))
          clear hl
          go_wp2
          go_quiet (fail)
          go_wp2_with (go_at_call 94; refine (right_any _ (by omega) (by omega) _ _).mono ?_; rintro e w' ⟨rfl, rfl⟩)
          replace hB1 := hB1.drewN nq
          replace hB2 := hB2.drewN nq
          replace hbel := below_drewN hbel nq
          clear d0 d1
          generalize wr.drewN nq = W1 at *
          have d2 := hB2.cell (k - 7) (warr_get (wz b k) _ (by rw [wz_len b k hk]; omega))
          have d3 := hB2.cell (k - 16) (warr_get (wz b k) _ (by rw [wz_len b k hk]; omega))
          have d4 := hB2.cell k (warr_get (wz b k) _ (by rw [wz_len b k hk]; omega))
          have d5 := hB2.free k
          go_region
          go_wp2
          go_roundw
          case rel =>
            refine ⟨k + 1, by omega, by omega, by go_num, (hB1.set' _ _ (by omega)).drew, ?_, (below_setCell hbel (by omega) _).drew⟩
            rw [← wz_step b k (by omega) ((next_walk ((wz b k)[k - 2]?.getD 0) ((wz b k)[k - 7]?.getD 0) ((wz b k)[k - 15]?.getD 0) ((wz b k)[k - 16]?.getD 0)).trans (by
              rw [nextw, if_neg (by omega), ← wz_get b k (k - 2) (by omega), ← wz_get b k (k - 7) (by omega), ← wz_get b k (k - 15) (by omega), ← wz_get b k (k - 16) (by omega)]
              simp only [List.getD_eq_getElem?_getD]))]
            exact (hB2.set _ _).drew
          case measure => simp [intOf]; omega
        · have HK := Lib.hid (show k = 64 by omega)
          have hs : (Tryd.prog.info? 134).map (·.size) = some (warr (wz b k)).size := by rw [warr_size, wz_len b k hk]; exact size_u32x64
          have HS := Lib.hid hs
          clear hs
          go_wp2_with (first | (refine wpList_load_row rfl 134 (.tmp 3) rfl (w.heap.size + 1 + 1) rfl 134 _ _ _ hB2 Tryd.underlying134 rfl HS.out ?_) | (refine wpList_store_row rfl 134 (.tmp 2) (.tmp 88) rfl (w.heap.size + 1) (warr (wz b k)) rfl rfl 134 _ hB1 HS.out (by rw [warr_size, warr_size, wz_len b k hk]; rfl) (warr_one_all _) ?_))
          refine bodyPost_ret (v := .agg (warr (wl b 64))) ?_ rfl ⟨rfl, below_setRow' hbel (by omega) _⟩
          rw [← wz_full b, ← HK.out]
          exact results_blk rfl _ (hB1.setRow _) rfl Tryd.underlying134 HS.out
end Go.Proofs.YtgbahfggnbpnmaaDoor
