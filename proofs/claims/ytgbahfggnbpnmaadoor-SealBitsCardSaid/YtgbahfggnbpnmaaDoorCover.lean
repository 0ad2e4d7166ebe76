import Derived.Test.YtgbahfggnbpnmaaDoorTag
/-
  seal.Stream, cover, Seal.
-/
namespace Go.Proofs.YtgbahfggnbpnmaaDoor
open Go.RowKit
set_option maxRecDepth 100000 in
theorem askstream_neg (v1 : Value) (nonce : List UInt8) (m : Int) (hm : m < 0) (w : World) : Calls Tryd.prog 54 #[v1, .agg (barr nonce), .int .i64 m] w fun e w' => e = .returned (.tuple #[.slice none 0 0, .int .i64 1]) ∧ Below w.heap.size w w' := by
  have HB := Lib.hid (below_one' w (.cells (barr nonce) 62))
  go_enter Tryd.func54, Tryd.ntmps54
  go_wp2
  go_ret2
  exact ⟨rfl, HB.out⟩
set_option maxRecDepth 100000 in
theorem askstream_long (v1 : Value) (nonce : List UInt8) (m : Int) (hm : 1048576 < m) (w : World) : Calls Tryd.prog 54 #[v1, .agg (barr nonce), .int .i64 m] w fun e w' => e = .returned (.tuple #[.slice none 0 0, .int .i64 3]) ∧ Below w.heap.size w w' := by
  have h0 : 0 ≤ m := by omega
  have HB := Lib.hid (below_one' w (.cells (barr nonce) 62))
  go_enter Tryd.func54, Tryd.ntmps54
  go_wp2
  go_ret2
  exact ⟨rfl, HB.out⟩
theorem size_u8x12 : (Tryd.prog.info? 62).map (·.size) = some 12 := by kernel_rfl
set_option maxRecDepth 100000 in
set_option maxHeartbeats 1000000 in
theorem askstream_walk (enc nonce : List UInt8) (hnon : nonce.length = 12) (a : Option Addr) (n c N : Nat) (hN : N ≤ 1048576) (w : World) (hK : Txt w a n c enc) (hT : Two w) (hlen : enc.length ≤ 1152921504606) :
    Calls Tryd.prog 54 #[.slice a n c, .agg (barr nonce), .int .i64 N] w fun e w' => ∃ g, e = .returned (.tuple #[.slice (some ⟨g, 0, none⟩) N N, .int .i64 0]) ∧ Txt w' (some ⟨g, 0, none⟩) N N (streamL enc nonce N) ∧ Below w.heap.size w w' := by
  obtain ⟨q0, qb⟩ := new1 w (barr nonce) 62
  have HB := Lib.hid qb
  have HQ := Lib.hid q0
  have HK := Lib.hid (hK.on qb)
  have HT := Lib.hid (hT.on qb)
  have HS := Lib.hid (show (Tryd.prog.info? 62).map (·.size) = some (barr nonce).size by rw [barr_size, hnon]; exact size_u8x12)
  have HN := Lib.hid hnon
  have g1 : ¬ (N : Int) < 0 := by omega
  have g2 : (N : Int) ≤ 1048576 := by omega
  clear hK hT q0 qb hnon
  go_enter Tryd.func54, Tryd.ntmps54
  go_wp2_with (first | (refine wpList_load_row rfl 62 (.tmp 4) rfl w.heap.size rfl 62 _ _ _ HQ.out Tryd.underlying62 rfl HS.out ?_) | (go_at_call 112; refine (stream_walk enc nonce HN.out a n c N (by omega) _ HK.out HT.out hlen).mono ?_; rintro e w2 ⟨g, rfl, _, hB, hb2⟩; have HR := Lib.hid (by have h := Txt.of_blk hB; rw [streamL_len] at h; exact h); have HB2 := Lib.hid (HB.out.trans (hb2.mono HB.out.size)); clear hB hb2))
  go_ret2
  exact ⟨g, rfl, HR.out, HB2.out⟩
/-- The first k bytes turned by another text's. -/
def xz (S T : List UInt8) (k : Nat) : List UInt8 := xorL (S.take k) (T.take k) ++ S.drop k
theorem xz_zero (S T : List UInt8) : xz S T 0 = S := by simp [xz, xorL]
theorem xz_full (S T : List UInt8) (k : Nat) (h : S.length = T.length) (hk : k = T.length) : xz S T k = xorL S T := by
  subst hk
  unfold xz; rw [List.take_of_length_le (by omega), List.take_of_length_le (by omega), List.drop_of_length_le (by omega), List.append_nil]
theorem xz_len (S T : List UInt8) (k : Nat) (h : S.length = T.length) : (xz S T k).length = S.length := by
  unfold xz; rw [List.length_append, xorL_len _ _ (by simp [h])]; simp; omega
theorem xz_get (S T : List UInt8) (k : Nat) (h : S.length = T.length) (hk : k < S.length) : (xz S T k).getD k 0 = S.getD k 0 := by
  have hl : (xorL (S.take k) (T.take k)).length = k := by rw [xorL_len _ _ (by simp [h])]; simp; omega
  unfold xz
  simp only [List.getD]
  rw [List.getElem?_append_right (by omega), hl]
  simp
theorem xz_step (S T : List UInt8) (k : Nat) (h : S.length = T.length) (hk : k < S.length) : (xz S T k).set k (S.getD k 0 ^^^ T.getD k 0) = xz S T (k + 1) := by
  have hl : (xorL (S.take k) (T.take k)).length = k := by rw [xorL_len _ _ (by simp [h])]; simp; omega
  unfold xz
  rw [List.drop_eq_getElem_cons hk, List.set_append_right _ _ (by omega), hl, Nat.sub_self, List.set_cons_zero, List.take_succ_eq_append_getElem hk, List.take_succ_eq_append_getElem (show k < T.length by omega)]
  unfold xorL
  rw [List.zipWith_append (by simp [h]), List.append_assoc]
  simp [List.getD, hk, show k < T.length by omega]
set_option maxRecDepth 100000 in
set_option maxHeartbeats 1000000 in
theorem cover_walk (enc nonce text : List UInt8) (hnon : nonce.length = 12) (a b : Option Addr) (n c m d : Nat) (hm : m ≤ 1048576) (w : World) (hK : Txt w a n c enc) (hX : Txt w b m d text) (hT : Two w) (hlen : enc.length ≤ 1152921504606) :
    Calls Tryd.prog 107 #[.slice a n c, .agg (barr nonce), .slice b m d] w fun e w' => ∃ g, e = .returned (.slice (some ⟨g, 0, none⟩) m m) ∧ w.heap.size ≤ g ∧ Blk w' g (barr (coverL enc nonce text)) 5 ∧ Below w.heap.size w w' := by
  obtain ⟨q0, qb⟩ := new1 w (barr nonce) 62
  have HB := Lib.hid qb
  have HQ := Lib.hid q0
  have HK := Lib.hid (hK.on qb)
  have HX := Lib.hid (hX.on qb)
  have HT := Lib.hid (hT.on qb)
  have HS := Lib.hid (show (Tryd.prog.info? 62).map (·.size) = some (barr nonce).size by rw [barr_size, hnon]; exact size_u8x12)
  have HN := Lib.hid hnon
  have HM := Lib.hid hX.len
  have HXw := Lib.hid hX
  clear hK hT hX q0 qb hnon
  go_enter Tryd.func107, Tryd.ntmps107
  go_wp2_with (first | (refine wpList_load_row rfl 62 (.tmp 4) rfl w.heap.size rfl 62 _ _ _ HQ.out Tryd.underlying62 rfl HS.out ?_) | (go_at_call 112; refine (stream_walk enc nonce HN.out a n c m (by omega) _ HK.out HT.out hlen).mono ?_; rintro e w2 ⟨g, rfl, hg, hB, hb2⟩; have HO := Lib.hid hB; have HX2 := Lib.hid (HX.out.on hb2); have HG := Lib.hid (Nat.le_trans HB.out.size hg); have HB2 := Lib.hid (HB.out.trans (hb2.mono HB.out.size)); clear hB hb2 hg))
  obtain ⟨S, hS⟩ : ∃ S, S = streamL enc nonce m := ⟨_, rfl⟩
  rw [← hS] at HO
  have HSL := Lib.hid (show S.length = text.length by rw [hS, streamL_len]; exact HM.out)
  have HSE := Lib.hid hS
  clear hS
  go_loopw [17] (fun x wr => ∃ k : Nat, k ≤ m ∧ x = .int .i64 (k : Nat) ∧ Blk wr g (barr (xz S text k)) 5 ∧ Below w.heap.size w wr) (fun x _ => m - (intOf x).toNat)
  case atStart => exact ⟨0, Nat.zero_le _, rfl, by rw [xz_zero]; exact HO.out, HB2.out⟩
  case round =>
    clear HO HB2 HX2 HK HT HQ HB
    obtain ⟨k, hk, rfl, hp, hb⟩ := hrel
    by_cases hlt : k < m
    · obtain ⟨x, hx⟩ : ∃ x, x = S.getD k 0 := ⟨_, rfl⟩
      obtain ⟨y, hy⟩ : ∃ y, y = text.getD k 0 := ⟨_, rfl⟩
      have c0 := hp.cell k (barr_get (xz S text k) k (by have := HSL.out; have := HM.out; rw [xz_len _ _ _ HSL.out]; omega))
      rw [xz_get _ _ _ HSL.out (by have := HSL.out; have := HM.out; omega), ← hx] at c0
      have c1 := hp.free k
      obtain ⟨g2, o2, rfl, hc2⟩ := ((HXw.out.on hb).rd).at (i := k) (by have := HM.out; omega)
      rw [← hy] at hc2
      have hxor := u8_xor x y
      have HP := Lib.hid hp
      have HBk := Lib.hid hb
      have HXX := Lib.hid hx
      have HYY := Lib.hid hy
      clear hp hb hx hy
      go_wp2
      go_roundw
      case rel =>
        refine ⟨k + 1, by omega, by go_num, ?_, below_setCell HBk.out HG.out _⟩
        rw [← xz_step _ _ _ HSL.out (show k < S.length by have := HSL.out; have := HM.out; omega), ← barr_set, ← HXX.out, ← HYY.out]
        exact HP.out.set _ _
      case measure => simp [intOf]; omega
    · have HK2 := Lib.hid (show k = m by omega)
      go_wp2
      go_ret
      refine ⟨g, rfl, HG.out, ?_, hb⟩
      rw [xz_full _ _ _ HSL.out (by have := HK2.out; have := HM.out; omega), HSE.out, HM.out] at hp
      exact hp
end Go.Proofs.YtgbahfggnbpnmaaDoor
