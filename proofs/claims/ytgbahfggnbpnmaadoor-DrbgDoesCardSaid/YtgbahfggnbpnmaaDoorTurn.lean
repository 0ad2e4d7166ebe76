import Derived.Test.YtgbahfggnbpnmaaDoorPad
/-
  The reference's turned.
-/
namespace Go.Proofs.YtgbahfggnbpnmaaDoor
open Go.RowKit
theorem turnL_get (key : List UInt8) (c : UInt8) (k : Nat) (h : k < 64) : (turnL key c).getD k 0 = (kz key).getD k 0 ^^^ c := by
  have : k < (kz key).length := by rw [kz_len]; exact h
  simp [turnL, List.getD, this]
theorem kz_get (key : List UInt8) (k : Nat) (h : k < (k64 key).length) : (kz key).getD k 0 = (k64 key).getD k 0 := by
  unfold kz; simp only [List.getD]; rw [List.getElem?_append_left h]
theorem kz_get0 (key : List UInt8) (k : Nat) (h : (k64 key).length ≤ k) (h2 : k < 64) : (kz key).getD k 0 = 0 := by
  unfold kz; simp only [List.getD]; rw [List.getElem?_append_right h, List.getElem?_replicate, if_pos (by omega)]; rfl
theorem fillz_get (X : List UInt8) (n k : Nat) (h : X.length = n) (hk : k < n) : (fillz X n k).getD k 0 = 0 := by
  unfold fillz; simp only [List.getD]
  rw [List.getElem?_append_right (by simp; omega), List.getElem?_replicate, if_pos (by simp; omega)]; rfl
set_option maxRecDepth 100000 in
set_option maxHeartbeats 1000000 in
theorem turned_walk (key : List UInt8) (b : UInt8) (a : Option Addr) (n c : Nat) (w : World) (hX : Txt w a n c key) (hlen : key.length ≤ 1152921504606) :
    Calls Tryd.prog 106 #[.slice a n c, bv b] w fun e w' => ∃ g, e = .returned (.slice (some ⟨g, 0, none⟩) 64 64) ∧ w.heap.size ≤ g ∧ Blk w' g (barr (turnL key b)) 5 ∧ Below w.heap.size w w' := by
  have HX := Lib.hid hX
  obtain rfl := hX.len
  clear hX
  by_cases h64 : 64 < key.length
  · have hk : k64 key = sha key := by unfold k64; rw [if_pos h64]
    have HK := Lib.hid hk
    clear hk
    go_enter Tryd.func106, Tryd.ntmps106
    go_wp2_with (first | (go_at_call 35; refine (rsum_walk key _ _ _ w HX.out hlen).mono ?_; rintro e w2 ⟨a2, c2, rfl, hO2, hb2⟩; have HB3 := Lib.hid hb2; have TK := Lib.hid (by have h := hO2.txt; rw [← HK.out] at h; exact h); clear hb2 hO2) | (refine wpList_make_abs rfl 28 (.const (.int .i64 64)) (.const (.int .i64 64)) rfl 5 (.int .u8 0) 1 Tryd.underlying28 info_u8 rfl .i64 .i64 64 64 rfl rfl (Nat.le_refl _) (by omega) (by omega) ?_; rw [rep_bytes]))
    go_loopw [13] (fun x wr => ∃ k : Nat, k ≤ 64 ∧ x = .int .i64 (k : Nat) ∧ Blk wr w2.heap.size (barr (fillz (turnL key b) 64 k)) 5 ∧ Below w2.heap.size w2 wr) (fun x _ => 64 - (intOf x).toNat)
    case atStart => exact ⟨0, Nat.zero_le _, rfl, by rw [fillz_zero]; exact (new1 w2 _ _).1, (new1 w2 _ _).2⟩
    case round =>
      obtain ⟨k, hk, rfl, hp, hb⟩ := hrel
      by_cases hlt : k < 64
      · have c1 := hp.cell k (barr_get (fillz (turnL key b) 64 k) k (by rw [fillz_len _ _ _ (turnL_len _ _) hk]; exact hlt))
        rw [fillz_get _ _ _ (turnL_len _ _) hlt] at c1
        have c2 := hp.free k
        by_cases hkl : k < 32
        · obtain ⟨x, hx⟩ : ∃ x, x = (k64 key).getD k 0 := ⟨_, rfl⟩
          obtain ⟨g0, o0, e0, c0⟩ := (TK.out.rd.below hb).at (i := k) (by rw [← TK.out.len]; exact hkl)
          subst e0
          rw [← hx] at c0
          have hxor := u8_xor x b
          have HP := Lib.hid hp
          have HB := Lib.hid hb
          have HXX := Lib.hid hx
          
          clear hp hb hx
          go_wp2
          go_roundw
          case rel =>
            refine ⟨k + 1, by omega, by go_num, ?_, below_setCell (below_setCell HB.out (Nat.le_refl _) _) (Nat.le_refl _) _⟩
            rw [← fillz_step _ _ _ (turnL_len _ _) hlt, ← barr_set, turnL_get _ _ _ hlt, kz_get _ _ (by rw [← TK.out.len]; exact hkl), ← HXX.out]
            have := (HP.out.set k (bv x)).set k (bv (x ^^^ b))
            rw [Array.setIfInBounds_setIfInBounds] at this
            exact this
          case measure => simp [intOf]; omega
        · have hxor := u8_xor 0 b
          have HP := Lib.hid hp
          have HB := Lib.hid hb
          clear hp hb
          go_wp2
          go_roundw
          case rel =>
            refine ⟨k + 1, by omega, by go_num, ?_, below_setCell HB.out (Nat.le_refl _) _⟩
            rw [← fillz_step _ _ _ (turnL_len _ _) hlt, ← barr_set, turnL_get _ _ _ hlt, kz_get0 _ _ (by rw [← TK.out.len]; omega) hlt]
            have e : Value.int .u8 (bits .xor .u8 0 (b.toNat : Int)) = bv (0 ^^^ b) := congrArg (Value.int .u8) (u8_xor 0 b)
            rw [e]
            exact HP.out.set _ _
          case measure => simp [intOf]; omega
      · have HK2 := Lib.hid (show k = 64 by omega)
        go_wp2
        go_ret
        refine ⟨_, rfl, HB3.out.size, ?_, HB3.out.trans (hb.mono HB3.out.size)⟩
        rw [HK2.out, fillz_full _ _ (turnL_len _ _)] at hp
        exact hp
  · have hk : k64 key = key := by unfold k64; rw [if_neg h64]
    have TK := Lib.hid (by rw [hk]; exact HX.out : Txt w a key.length c (k64 key))
    have HB3 := Lib.hid (Below.refl w.heap.size w)
    clear hk
    go_enter Tryd.func106, Tryd.ntmps106
    go_wp2_with (refine wpList_make_abs rfl 28 (.const (.int .i64 64)) (.const (.int .i64 64)) rfl 5 (.int .u8 0) 1 Tryd.underlying28 info_u8 rfl .i64 .i64 64 64 rfl rfl (Nat.le_refl _) (by omega) (by omega) ?_; rw [rep_bytes])
    go_loopw [13] (fun x wr => ∃ k : Nat, k ≤ 64 ∧ x = .int .i64 (k : Nat) ∧ Blk wr w.heap.size (barr (fillz (turnL key b) 64 k)) 5 ∧ Below w.heap.size w wr) (fun x _ => 64 - (intOf x).toNat)
    case atStart => exact ⟨0, Nat.zero_le _, rfl, by rw [fillz_zero]; exact (new1 w _ _).1, (new1 w _ _).2⟩
    case round =>
      obtain ⟨k, hk, rfl, hp, hb⟩ := hrel
      by_cases hlt : k < 64
      · have c1 := hp.cell k (barr_get (fillz (turnL key b) 64 k) k (by rw [fillz_len _ _ _ (turnL_len _ _) hk]; exact hlt))
        rw [fillz_get _ _ _ (turnL_len _ _) hlt] at c1
        have c2 := hp.free k
        by_cases hkl : k < key.length
        · obtain ⟨x, hx⟩ : ∃ x, x = (k64 key).getD k 0 := ⟨_, rfl⟩
          obtain ⟨g0, o0, e0, c0⟩ := (TK.out.rd.below hb).at (i := k) (by rw [← TK.out.len]; exact hkl)
          subst e0
          rw [← hx] at c0
          have hxor := u8_xor x b
          have HP := Lib.hid hp
          have HB := Lib.hid hb
          have HXX := Lib.hid hx
          
          clear hp hb hx
          go_wp2
          go_roundw
          case rel =>
            refine ⟨k + 1, by omega, by go_num, ?_, below_setCell (below_setCell HB.out (Nat.le_refl _) _) (Nat.le_refl _) _⟩
            rw [← fillz_step _ _ _ (turnL_len _ _) hlt, ← barr_set, turnL_get _ _ _ hlt, kz_get _ _ (by rw [← TK.out.len]; exact hkl), ← HXX.out]
            have := (HP.out.set k (bv x)).set k (bv (x ^^^ b))
            rw [Array.setIfInBounds_setIfInBounds] at this
            exact this
          case measure => simp [intOf]; omega
        · have hxor := u8_xor 0 b
          have HP := Lib.hid hp
          have HB := Lib.hid hb
          clear hp hb
          go_wp2
          go_roundw
          case rel =>
            refine ⟨k + 1, by omega, by go_num, ?_, below_setCell HB.out (Nat.le_refl _) _⟩
            rw [← fillz_step _ _ _ (turnL_len _ _) hlt, ← barr_set, turnL_get _ _ _ hlt, kz_get0 _ _ (by rw [← TK.out.len]; omega) hlt]
            have e : Value.int .u8 (bits .xor .u8 0 (b.toNat : Int)) = bv (0 ^^^ b) := congrArg (Value.int .u8) (u8_xor 0 b)
            rw [e]
            exact HP.out.set _ _
          case measure => simp [intOf]; omega
      · have HK2 := Lib.hid (show k = 64 by omega)
        go_wp2
        go_ret
        refine ⟨_, rfl, HB3.out.size, ?_, HB3.out.trans (hb.mono HB3.out.size)⟩
        rw [HK2.out, fillz_full _ _ (turnL_len _ _)] at hp
        exact hp
end Go.Proofs.YtgbahfggnbpnmaaDoor
