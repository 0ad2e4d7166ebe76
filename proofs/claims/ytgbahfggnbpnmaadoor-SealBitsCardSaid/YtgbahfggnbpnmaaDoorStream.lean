import Derived.Test.YtgbahfggnbpnmaaDoorSame
/-
  seal.stream, Stream.
-/
namespace Go.Proofs.YtgbahfggnbpnmaaDoor
open Go.RowKit
theorem wp_alloc32 {o : Oper} {a : Act} {w : World} {K : Act → World → Prop} {Q : Exit → Act → World → Prop} (ho : o.op = .alloc 31)
    (h : K (a.put o.dst (.pointer (some ⟨w.heap.size, 0, none⟩))) (w.alloc (.cells (barr (List.replicate 32 0)) 31))) : o.wp Tryd.prog a w K Q := by
  unfold Oper.wp execOp
  simp only [ho]
  go_simp
  exact h
theorem Rd.take_bytes {w : World} {a : Option Addr} {l : List UInt8} (h : RdB w a l) (k : Nat) : Rd w a ((l.take k).map bv) := by rw [List.map_take]; exact Rd.take h k
theorem be32_of {k : Nat} {k' : Nat} (h : k' = k) : be 4 k' = be 4 k := by rw [h]
theorem mac_blk2 (w : World) (g : Nat) (t : TypeId) {ka a a2 : Option Addr} {kn kc n c n2 c2 : Nat} {key l l2 : List UInt8} (hB : Blk w g #[.slice a n c, .slice a2 n2 c2] t) (hk : Txt w ka kn kc key) (h : Txt w a n c l) (h2 : Txt w a2 n2 c2 l2) (hT : Two w) (hlen : key.length ≤ 1152921504606) (hl : l.length + l2.length ≤ 1152921504606) :
    Calls Tryd.prog 40 #[.slice ka kn kc, .slice (some ⟨g, 0, none⟩) 2 2] w fun e w' => e = .returned (.agg (barr (macL key (l ++ l2)))) ∧ Below w.heap.size w w' := by
  refine (mac_walk key ka kn kc [l, l2] 2 2 rfl _ _ hk (h.parts2 h2 hB) hT hlen (by simpa using hl) (by simp)).mono ?_
  rintro e w' ⟨he, hb⟩
  simp only [List.flatten_cons, List.flatten_nil, List.append_nil] at he
  exact ⟨he, hb⟩
theorem slice_at (g n c lo : Nat) (hf : n ≤ c) (h1 : lo < n) :
    ∃ A C, Hid (A = some ⟨g, lo, none⟩) ∧ ∀ W : World, (Instr.sliceAt 28 (.slice (some ⟨g, 0, none⟩) n c) (some (.int .i64 lo)) none none).run Tryd.prog W = .ok (.slice A (n - lo) C) W := by
  refine ⟨_, c - lo, rfl, fun W => ?_⟩
  rw [run_sliceAt_slice (h := under_u8s), run_slice_l (ht := under_u8s) (h0 := by omega) (h1 := by omega), elem_u8s, size_one]
  have : ¬ c = lo := by omega
  simp [Result.andThen, sliced, this, Addr.add_mid]
/-- The bytes so far, zeros behind them. -/
def outz (enc nonce : List UInt8) (N k : Nat) : List UInt8 := (strL enc nonce k ++ List.replicate N 0).take N
theorem outz_len (enc nonce : List UInt8) (N k : Nat) : (outz enc nonce N k).length = N := by unfold outz; simp
theorem outz_zero (enc nonce : List UInt8) (N : Nat) : outz enc nonce N 0 = List.replicate N 0 := by unfold outz strL; simp
theorem outz_full (enc nonce : List UInt8) (N : Nat) : outz enc nonce N ((N + 31) / 32) = streamL enc nonce N := by
  unfold outz streamL; rw [List.take_append_of_le_length (by rw [strL_len]; omega)]
theorem outz_step (enc nonce : List UInt8) (N k K : Nat) (hK : K = 32 * k) (h : 32 * k < N) : splice (outz enc nonce N k) K ((macL enc (nonce ++ be 4 k)).take (N - K)) = outz enc nonce N (k + 1) := by
  subst hK
  have hm : (macL enc (nonce ++ be 4 k)).length = 32 := macL_len _ _
  have hl := strL_len enc nonce k
  unfold splice outz
  simp only [strL]
  rw [List.take_take, Nat.min_eq_left (by omega), List.take_append_of_le_length (by omega), List.take_of_length_le (by omega)]
  generalize strL enc nonce k = S at *
  generalize macL enc (nonce ++ be 4 k) = T at *
  rw [List.append_assoc S T, List.take_append (l₁ := S) (l₂ := T ++ _), List.take_of_length_le (l := S) (by omega), hl]
  congr 1
  rw [List.take_append (l₁ := T), hm]
  congr 1
  rw [List.take_append (l₁ := S), List.take_of_length_le (l := S) (by omega), hl, List.drop_append, List.drop_of_length_le (l := S) (by rw [hl]; omega), List.nil_append, hl, List.length_take, hm]
  simp only [List.take_replicate, List.drop_replicate]
  congr 1
  omega
set_option maxRecDepth 100000 in
set_option maxHeartbeats 2000000 in
theorem stream_walk (enc nonce : List UInt8) (hnon : nonce.length = 12) (a : Option Addr) (n c N : Nat) (hN : N ≤ 1048576) (w : World) (hK : Txt w a n c enc) (hT : Two w) (hlen : enc.length ≤ 1152921504606) :
    Calls Tryd.prog 112 #[.slice a n c, .agg (barr nonce), .int .i64 N] w fun e w' => ∃ g, e = .returned (.slice (some ⟨g, 0, none⟩) N N) ∧ w.heap.size ≤ g ∧ Blk w' g (barr (streamL enc nonce N)) 5 ∧ Below w.heap.size w w' := by
  obtain ⟨q0, qb⟩ := new1 w (barr nonce) 62
  obtain ⟨q1, qb1⟩ := new1 (w.alloc (.cells (barr nonce) 62)) (barr (List.replicate N 0)) 5
  have HBS := Lib.hid (qb.trans (qb1.mono qb.size))
  have HNS := Lib.hid (q0.on qb1)
  have HOS := Lib.hid q1
  have HK := Lib.hid hK
  have HTw := Lib.hid hT
  have HEL := Lib.hid hlen
  have HNL := Lib.hid hnon
  have HSZ := Lib.hid (show (w.alloc (.cells (barr nonce) 62)).heap.size = w.heap.size + 1 by simp)
  have HN0 := Lib.hid hN
  have f1 : IntKind.i64.wrap ((N : Int) + 32) = (N : Int) + 32 := IntWalk.i64_in _ (by omega)
  have f2 : IntKind.i64.wrap ((N : Int) + 32 - 1) = (N : Int) + 31 := by rw [show (N : Int) + 32 - 1 = (N : Int) + 31 by omega]; exact IntWalk.i64_in _ (by omega)
  obtain ⟨M, hM⟩ : ∃ M, M = (N + 31) / 32 := ⟨_, rfl⟩
  have f3 : ((N : Int) + 31).tdiv 32 = (M : Int) := by rw [Int.tdiv_eq_ediv_of_nonneg (by omega)]; omega
  have f3' : ((N : Int) + 31) / 32 = (M : Int) := by omega
  have f4 : IntKind.i64.wrap (M : Int) = (M : Int) := IntWalk.i64_in _ (by omega)
  have HM := Lib.hid hM
  clear hK hT q0 qb q1 qb1 hlen hM hnon
  go_enter Tryd.func112, Tryd.ntmps112
  go_wp2_with (refine wpList_make_abs rfl 28 (.tmp 10) (.tmp 10) rfl 5 (.int .u8 0) 1 Tryd.underlying28 info_u8 rfl .i64 .i64 N N rfl rfl (Nat.le_refl _) (by omega) (by omega) ?_; rw [rep_bytes])
  rw [HSZ.out] at HOS
  go_loopw [16] (fun x wr => ∃ k : Nat, k ≤ M ∧ x = .int .i64 (k : Nat) ∧ Blk wr w.heap.size (barr nonce) 62 ∧ Blk wr (w.heap.size + 1) (barr (outz enc nonce N k)) 5 ∧ Below w.heap.size w wr) (fun x _ => M - (intOf x).toNat)
  case atStart => exact ⟨0, Nat.zero_le _, rfl, HNS.out, by rw [outz_zero]; exact HOS.out, HBS.out⟩
  case round =>
    obtain ⟨k, hk, rfl, hN1, hO1, hb1⟩ := hrel
    have HNr := Lib.hid hN1
    have HOr := Lib.hid hO1
    have HBr := Lib.hid hb1
    have HE := Lib.hid (HK.out.on hb1)
    have HT := Lib.hid (HTw.out.on hb1)
    clear hN1 hO1 hb1 HNS HOS HBS
    obtain ⟨g0, hg0⟩ : ∃ g, g = w.heap.size := ⟨_, rfl⟩
    have HG0 := Lib.hid hg0
    simp only [← hg0] at HNr HOr ⊢
    have HG01 := Lib.hid (show g0 ≠ g0 + 1 by omega)
    have HG1 := Lib.hid (show w.heap.size ≤ g0 + 1 by omega)
    clear hg0
    by_cases hlt : k < M
    · obtain ⟨K32, hK32⟩ : ∃ z, z = 32 * k := ⟨_, rfl⟩
      have HK32e := Lib.hid hK32
      have HKlt := Lib.hid (show 32 * k < N by have := HM.out; omega)
      have HKN := Lib.hid hlt
      have HK32' := Lib.hid (show K32 < N by have := HM.out; omega)
      have hle : K32 ≤ N := by have := HK32'.out; omega
      have hle' : (K32 : Int) ≤ (N : Int) := by omega
      have f5 : IntKind.i64.wrap ((k : Int) * 32) = (K32 : Int) := by rw [show (k : Int) * 32 = (K32 : Int) by omega]; exact IntWalk.i64_in _ (by have := HN0.out; omega)
      have HKW := Lib.hid (show IntKind.u32.wrap (k : Int) = ((UInt32.ofNat k).toNat : Int) by rw [IntKind.wrap_u32]; simp)
      have HK32 := Lib.hid (show (UInt32.ofNat k).toNat = k by simp; have := HM.out; have := HN0.out; omega)
      obtain ⟨V, hV⟩ : ∃ V, V = macL enc (nonce ++ be 4 k) := ⟨_, rfl⟩
      have HVL := Lib.hid (show V.length = 32 by rw [hV]; exact macL_len _ _)
      have HVE := Lib.hid hV
      obtain ⟨AK, CK, HAK, hAKs⟩ := slice_at (g0 + 1) N N K32 (Nat.le_refl _) HK32'.out
      have TN := Lib.hid (by have h := Txt.of_blk HNr.out; rw [HNL.out] at h; exact h : Txt wr (some ⟨g0, 0, none⟩) 12 12 nonce)
      clear hV hK32
      go_wp2
      refine wp_region_held_drew (S := fun w' => Below wr.heap.size wr w') (by kernel_rfl) (Below.refl _ _).drew (fun _ => ?_)
      have HS := Lib.hid ((Below.refl wr.heap.size wr).drew)
      have HE := Lib.hid (HE.out.on (HS.out))
      have TN := Lib.hid (TN.out.on (HS.out))
      have HT := Lib.hid (HT.out.on (HS.out))
      generalize World.drew wr = v0 at *
      refine wpAnyH_take (i := 0) (oi := ⟨some 19, .move (.tmp 0), 28, _, _, none⟩) (v := .slice a n c) rfl (by kernel_rfl) (by kernel_rfl) (by kernel_rfl) (fun _ _ _ h => h) (Or.inl ⟨by rfl, fun _ _ => by go_simp⟩) HS.out ?_
      refine wpAnyH_take (i := 1) (oi := ⟨some 20, .slice 62 (.tmp 4) none none none, 28, _, _, none⟩) (v := .slice (some ⟨g0, 0, none⟩) 12 12) rfl (by kernel_rfl) (by kernel_rfl) (by kernel_rfl) (fun _ _ _ h => h) (Or.inl ⟨by rfl, fun _ _ => by go_simp⟩) HS.out ?_
      refine wpAnyH_take (i := 2) (oi := ⟨some 21, .move (.tmp 8), 3, _, _, none⟩) (v := .int .i64 (k : Nat)) rfl (by kernel_rfl) (by kernel_rfl) (by kernel_rfl) (fun _ _ _ h => h) (Or.inl ⟨by rfl, fun _ _ => by go_simp⟩) HS.out ?_
      refine wpAnyH_take (i := 3) (oi := ⟨some 22, .convert 3 22 (.tmp 21), 22, _, _, none⟩) (v := wv (UInt32.ofNat k)) rfl (by kernel_rfl) (by kernel_rfl) (by kernel_rfl) (fun _ _ _ h => h) (Or.inl ⟨by rfl, fun _ _ => by go_simp <;> exact HKW.out⟩) HS.out ?_
      try simp only [Act.put, List.setIfInBounds_toArray, List.set_cons_succ, List.set_cons_zero]
      refine wpAnyH_ready (rs := [4, 7]) (by kernel_rfl) (by simp) ?_
      refine AllReadyH.cons (o := ⟨some 23, .call { callee := .value (.func 101), args := #[.tmp 22], argTypes := #[22] }, 28, _, _, none⟩) rfl (fun K hK => ?_) (AllReadyH.cons (o := ⟨some 9, .alloc 31, _, _, _, none⟩) rfl (fun K hK => ?_) AllReadyH.nil)
      · go_simp
        refine (u32_walk (UInt32.ofNat k) _).mono ?_
        rintro e v1 ⟨gu, rfl, hgu, hbu, hb⟩
        have HE := Lib.hid (HE.out.on hb)
        have TN := Lib.hid (TN.out.on hb)
        have HT := Lib.hid (HT.out.on hb)
        have HS := Lib.hid (HS.out.trans (hb.mono HS.out.size))
        have TU := Lib.hid (by have h := Txt.of_blk hbu; rw [be_len] at h; exact h)
        clear hb hbu hgu
        refine hK _ _ HS.out (fun _ => ?_)
        clear hK K
        try simp only [Act.put, List.setIfInBounds_toArray, List.set_cons_succ, List.set_cons_zero]
        refine wpAnyH_ready (rs := [5, 7]) (by kernel_rfl) (by simp) ?_
        refine AllReadyH.cons (o := ⟨some 24, .buildSlice 35 2 #[(0, .tmp 20), (1, .tmp 23)], 35, _, _, none⟩) rfl (fun K hK => ?_) (AllReadyH.cons (o := ⟨some 9, .alloc 31, _, _, _, none⟩) rfl (fun K hK => ?_) AllReadyH.nil)
        · go_simp
          have BJ := Blk.new v1 #[.slice (some ⟨g0, 0, none⟩) 12 12, .slice (some ⟨gu, 0, none⟩) 4 4] 28
          have hb := below_one' v1 (.cells #[.slice (some ⟨g0, 0, none⟩) 12 12, .slice (some ⟨gu, 0, none⟩) 4 4] 28)
          generalize World.alloc v1 _ = v2 at *
          have HE := Lib.hid (HE.out.on hb)
          have TN := Lib.hid (TN.out.on hb)
          have HT := Lib.hid (HT.out.on hb)
          have HS := Lib.hid (HS.out.trans (hb.mono HS.out.size))
          have TU := Lib.hid (TU.out.on hb)
          replace BJ := Lib.hid BJ
          clear hb
          refine hK _ _ HS.out (fun _ => ?_)
          clear hK K
          try simp only [Act.put, List.setIfInBounds_toArray, List.set_cons_succ, List.set_cons_zero]
          refine wpAnyH_ready (rs := [6, 7]) (by kernel_rfl) (by simp) ?_
          refine AllReadyH.cons (o := ⟨some 25, .call { callee := .value (.func 40), args := #[.tmp 19, .tmp 24], argTypes := #[28, 35] }, 31, _, _, none⟩) rfl (fun K hK => ?_) (AllReadyH.cons (o := ⟨some 9, .alloc 31, _, _, _, none⟩) rfl (fun K hK => ?_) AllReadyH.nil)
          · go_simp
            refine (mac_blk2 v2 _ 28 BJ.out HE.out TN.out TU.out HT.out HEL.out (by rw [be_len]; have := HNL.out; omega)).mono ?_
            rintro e v3 ⟨he, hb⟩
            rw [be32_of HK32.out, ← HVE.out] at he
            subst he
            have HE := Lib.hid (HE.out.on hb)
            have TN := Lib.hid (TN.out.on hb)
            have HT := Lib.hid (HT.out.on hb)
            have HS := Lib.hid (HS.out.trans (hb.mono HS.out.size))
            have TU := Lib.hid (TU.out.on hb)
            have BJ := Lib.hid (BJ.out.on hb)
            clear hb
            refine hK _ _ HS.out (fun _ => ?_)
            clear hK K
            try simp only [Act.put, List.setIfInBounds_toArray, List.set_cons_succ, List.set_cons_zero]
            refine wpAnyH_ready (rs := [7]) (by kernel_rfl) (by simp) ?_
            refine AllReadyH.cons (o := ⟨some 9, .alloc 31, _, _, _, none⟩) rfl (fun K hK => ?_) AllReadyH.nil
            rw [if_pos (by rfl)]
            refine wp_alloc32 (by rfl) ?_
            have BV := Blk.new v3 (barr (List.replicate 32 0)) 31
            have hb := below_one' v3 (.cells (barr (List.replicate 32 0)) 31)
            have HGE := Lib.hid (show wr.heap.size ≤ v3.heap.size from HS.out.size)
            generalize World.alloc v3 _ = v4 at *
            have HE := Lib.hid (HE.out.on hb)
            have TN := Lib.hid (TN.out.on hb)
            have HT := Lib.hid (HT.out.on hb)
            have HS := Lib.hid (HS.out.trans (hb.mono HS.out.size))
            have TU := Lib.hid (TU.out.on hb)
            have BJ := Lib.hid (BJ.out.on hb)
            replace BV := Lib.hid BV
            clear hb
            refine hK _ _ HS.out (fun _ => ?_)
            clear hK K
            try simp only [Act.put, List.setIfInBounds_toArray, List.set_cons_succ, List.set_cons_zero]
            refine wpAnyH_ready (rs := [8]) (by kernel_rfl) (by simp) ?_
            refine AllReadyH.cons (o := ⟨none, .store 31 (.tmp 9) (.tmp 25), 0, _, _, none⟩) rfl (fun K hK => ?_) AllReadyH.nil
            rw [if_pos (by rfl)]
            refine wp_store_abs 31 (.tmp 9) (.tmp 25) (by rfl) _ (barr V) (by rfl) (by rfl) BV.out (by rw [barr_size, HVL.out]; exact size_u8x32) (by rw [barr_size, barr_size, HVL.out]; rfl) (barr_one_all _) ?_
            intro v5 hW p9
            have HS9 := Lib.hid (hW.below HS.out HGE.out)
            refine hK _ _ HS9.out (fun _ => ?_)
            clear hK K hW
            refine wpAnyH_done (by kernel_rfl) ?_ _
            generalize v3.heap.size = g9 at *
            clear TU BJ BV HT TN HE HS HGE
            have hcp := HS9.out
            have HO1 := Lib.hid (HOr.out.on hcp)
            have HB1 := Lib.hid (HBr.out.trans (hcp.mono HBr.out.size))
            have HN1 := Lib.hid (HNr.out.on hcp)
            have TV := Lib.hid (out32 p9 HVL.out (Below.refl _ _))
            clear hcp HS9 p9
            go_wp2
            refine wp_region_any (by kernel_rfl) ?_
            change wpAny _ _ _ _ _ _ _ (World.drew v5)
            refine wpAny_take (i := 0) (oi := ⟨some 26, .move (.tmp 7), 28, _, _, none⟩) (v := .slice (some ⟨g0 + 1, 0, none⟩) N N) rfl (by kernel_rfl) (by kernel_rfl) (by kernel_rfl) (fun _ _ _ h => h) (Or.inl ⟨by rfl, fun _ => by go_simp⟩) ?_
            refine wpAny_take (i := 1) (oi := ⟨some 27, .move (.tmp 8), 3, _, _, none⟩) (v := .int .i64 (k : Nat)) rfl (by kernel_rfl) (by kernel_rfl) (by kernel_rfl) (fun _ _ _ h => h) (Or.inl ⟨by rfl, fun _ => by go_simp⟩) ?_
            refine wpAny_take (i := 2) (oi := ⟨some 28, .binOp .mul 3 (.tmp 27) (.const (.int .i64 32)) 3, 3, _, _, none⟩) (v := .int .i64 (K32 : Nat)) rfl (by kernel_rfl) (by kernel_rfl) (by kernel_rfl) (fun _ _ _ h => h) (Or.inl ⟨by rfl, fun _ => by go_simp⟩) ?_
            refine wpAny_take (i := 3) (oi := ⟨some 29, .slice 28 (.tmp 26) (some (.tmp 28)) none none, 28, _, _, none⟩) (v := .slice AK (N - K32) CK) rfl (by kernel_rfl) (by kernel_rfl) (by kernel_rfl) (fun _ _ _ h => h) (Or.inl ⟨by rfl, fun _ => by go_simp⟩) ?_
            refine wpAny_take (i := 4) (oi := ⟨some 30, .slice 31 (.tmp 9) none none none, 28, _, _, none⟩) (v := .slice (some ⟨g9, 0, none⟩) 32 32) rfl (by kernel_rfl) (by kernel_rfl) (by kernel_rfl) (fun _ _ _ h => h) (Or.inl ⟨by rfl, fun _ => by go_simp⟩) ?_
            simp only [Act.put, List.setIfInBounds_toArray, List.set_cons_succ, List.set_cons_zero]
            refine wpAny_ready (rs := [5]) (by kernel_rfl) (by simp) ?_
            refine AllReady.cons (o := ⟨some 31, .call { callee := .builtin .copy, args := #[.tmp 29, .tmp 30], argTypes := #[28, 28] }, 3, _, _, none⟩) rfl (fun K hK => ?_) AllReady.nil
            rw [if_pos (by rfl)]
            refine wp_copy_abs (.tmp 29) (.tmp 30) 28 28 rfl 5 Tryd.underlying28 size_u8 AK (some ⟨g9, 0, none⟩) (N - K32) CK 32 32 (by rfl) (by rfl) (g0 + 1) K32 HO1.out.drew ((V.take (N - K32)).map bv) (by have := HVL.out; simp; omega) (fun _ => HAK.out) (Rd.take_bytes TV.out.drew.rd _) (by rw [barr_size, outz_len]; simp; have := HK32'.out; omega) (bv_one _) (min 32 (N - K32)) (by have := HVL.out; simp; omega) ?_
            intro W6 hW6 hb6
            refine hK _ _ ?_
            clear hK K
            refine wpAny_done (by kernel_rfl) ?_ _
            have HB6 := Lib.hid (hW6.below HB1.out.drew HG1.out)
            have HN6 := Lib.hid (hW6.blk HN1.out.drew HG01.out)
            clear hW6
            go_wp2
            go_roundw
            case rel =>
              refine ⟨k + 1, by have := HKN.out; omega, by go_num, HN6.out, ?_, by rw [HG0.out]; exact HB6.out⟩
              rw [← outz_step enc nonce N k K32 HK32e.out HKlt.out, ← HVE.out]
              have e7 : (splice (barr (outz enc nonce N k)).toList K32 ((V.take (N - K32)).map bv)).toArray = barr (splice (outz enc nonce N k) K32 (V.take (N - K32))) := by
                simp [barr, splice]
              rw [← e7]; exact hb6
            case measure => simp [intOf]; omega
          · rw [if_pos (by rfl)]
            refine wp_alloc32 (by rfl) ?_
            have BV := Blk.new v2 (barr (List.replicate 32 0)) 31
            have hb := below_one' v2 (.cells (barr (List.replicate 32 0)) 31)
            have HGE := Lib.hid (show wr.heap.size ≤ v2.heap.size from HS.out.size)
            generalize World.alloc v2 _ = v6 at *
            have HE := Lib.hid (HE.out.on hb)
            have TN := Lib.hid (TN.out.on hb)
            have HT := Lib.hid (HT.out.on hb)
            have HS := Lib.hid (HS.out.trans (hb.mono HS.out.size))
            have TU := Lib.hid (TU.out.on hb)
            have BJ := Lib.hid (BJ.out.on hb)
            replace BV := Lib.hid BV
            clear hb
            refine hK _ _ HS.out (fun _ => ?_)
            clear hK K
            try simp only [Act.put, List.setIfInBounds_toArray, List.set_cons_succ, List.set_cons_zero]
            refine wpAnyH_ready (rs := [6]) (by kernel_rfl) (by simp) ?_
            refine AllReadyH.cons (o := ⟨some 25, .call { callee := .value (.func 40), args := #[.tmp 19, .tmp 24], argTypes := #[28, 35] }, 31, _, _, none⟩) rfl (fun K hK => ?_) AllReadyH.nil
            go_simp
            refine (mac_blk2 v6 _ 28 BJ.out HE.out TN.out TU.out HT.out HEL.out (by rw [be_len]; have := HNL.out; omega)).mono ?_
            rintro e v7 ⟨he, hb⟩
            rw [be32_of HK32.out, ← HVE.out] at he
            subst he
            have HE := Lib.hid (HE.out.on hb)
            have TN := Lib.hid (TN.out.on hb)
            have HT := Lib.hid (HT.out.on hb)
            have HS := Lib.hid (HS.out.trans (hb.mono HS.out.size))
            have TU := Lib.hid (TU.out.on hb)
            have BJ := Lib.hid (BJ.out.on hb)
            have BV := Lib.hid (BV.out.on hb)
            clear hb
            refine hK _ _ HS.out (fun _ => ?_)
            clear hK K
            try simp only [Act.put, List.setIfInBounds_toArray, List.set_cons_succ, List.set_cons_zero]
            refine wpAnyH_ready (rs := [8]) (by kernel_rfl) (by simp) ?_
            refine AllReadyH.cons (o := ⟨none, .store 31 (.tmp 9) (.tmp 25), 0, _, _, none⟩) rfl (fun K hK => ?_) AllReadyH.nil
            rw [if_pos (by rfl)]
            refine wp_store_abs 31 (.tmp 9) (.tmp 25) (by rfl) _ (barr V) (by rfl) (by rfl) BV.out (by rw [barr_size, HVL.out]; exact size_u8x32) (by rw [barr_size, barr_size, HVL.out]; rfl) (barr_one_all _) ?_
            intro v8 hW p9
            have HS9 := Lib.hid (hW.below HS.out HGE.out)
            refine hK _ _ HS9.out (fun _ => ?_)
            clear hK K hW
            refine wpAnyH_done (by kernel_rfl) ?_ _
            generalize v2.heap.size = g9 at *
            clear TU BJ BV HT TN HE HS HGE
            have hcp := HS9.out
            have HO1 := Lib.hid (HOr.out.on hcp)
            have HB1 := Lib.hid (HBr.out.trans (hcp.mono HBr.out.size))
            have HN1 := Lib.hid (HNr.out.on hcp)
            have TV := Lib.hid (out32 p9 HVL.out (Below.refl _ _))
            clear hcp HS9 p9
            go_wp2
            refine wp_region_any (by kernel_rfl) ?_
            change wpAny _ _ _ _ _ _ _ (World.drew v8)
            refine wpAny_take (i := 0) (oi := ⟨some 26, .move (.tmp 7), 28, _, _, none⟩) (v := .slice (some ⟨g0 + 1, 0, none⟩) N N) rfl (by kernel_rfl) (by kernel_rfl) (by kernel_rfl) (fun _ _ _ h => h) (Or.inl ⟨by rfl, fun _ => by go_simp⟩) ?_
            refine wpAny_take (i := 1) (oi := ⟨some 27, .move (.tmp 8), 3, _, _, none⟩) (v := .int .i64 (k : Nat)) rfl (by kernel_rfl) (by kernel_rfl) (by kernel_rfl) (fun _ _ _ h => h) (Or.inl ⟨by rfl, fun _ => by go_simp⟩) ?_
            refine wpAny_take (i := 2) (oi := ⟨some 28, .binOp .mul 3 (.tmp 27) (.const (.int .i64 32)) 3, 3, _, _, none⟩) (v := .int .i64 (K32 : Nat)) rfl (by kernel_rfl) (by kernel_rfl) (by kernel_rfl) (fun _ _ _ h => h) (Or.inl ⟨by rfl, fun _ => by go_simp⟩) ?_
            refine wpAny_take (i := 3) (oi := ⟨some 29, .slice 28 (.tmp 26) (some (.tmp 28)) none none, 28, _, _, none⟩) (v := .slice AK (N - K32) CK) rfl (by kernel_rfl) (by kernel_rfl) (by kernel_rfl) (fun _ _ _ h => h) (Or.inl ⟨by rfl, fun _ => by go_simp⟩) ?_
            refine wpAny_take (i := 4) (oi := ⟨some 30, .slice 31 (.tmp 9) none none none, 28, _, _, none⟩) (v := .slice (some ⟨g9, 0, none⟩) 32 32) rfl (by kernel_rfl) (by kernel_rfl) (by kernel_rfl) (fun _ _ _ h => h) (Or.inl ⟨by rfl, fun _ => by go_simp⟩) ?_
            simp only [Act.put, List.setIfInBounds_toArray, List.set_cons_succ, List.set_cons_zero]
            refine wpAny_ready (rs := [5]) (by kernel_rfl) (by simp) ?_
            refine AllReady.cons (o := ⟨some 31, .call { callee := .builtin .copy, args := #[.tmp 29, .tmp 30], argTypes := #[28, 28] }, 3, _, _, none⟩) rfl (fun K hK => ?_) AllReady.nil
            rw [if_pos (by rfl)]
            refine wp_copy_abs (.tmp 29) (.tmp 30) 28 28 rfl 5 Tryd.underlying28 size_u8 AK (some ⟨g9, 0, none⟩) (N - K32) CK 32 32 (by rfl) (by rfl) (g0 + 1) K32 HO1.out.drew ((V.take (N - K32)).map bv) (by have := HVL.out; simp; omega) (fun _ => HAK.out) (Rd.take_bytes TV.out.drew.rd _) (by rw [barr_size, outz_len]; simp; have := HK32'.out; omega) (bv_one _) (min 32 (N - K32)) (by have := HVL.out; simp; omega) ?_
            intro W6 hW6 hb6
            refine hK _ _ ?_
            clear hK K
            refine wpAny_done (by kernel_rfl) ?_ _
            have HB6 := Lib.hid (hW6.below HB1.out.drew HG1.out)
            have HN6 := Lib.hid (hW6.blk HN1.out.drew HG01.out)
            clear hW6
            go_wp2
            go_roundw
            case rel =>
              refine ⟨k + 1, by have := HKN.out; omega, by go_num, HN6.out, ?_, by rw [HG0.out]; exact HB6.out⟩
              rw [← outz_step enc nonce N k K32 HK32e.out HKlt.out, ← HVE.out]
              have e7 : (splice (barr (outz enc nonce N k)).toList K32 ((V.take (N - K32)).map bv)).toArray = barr (splice (outz enc nonce N k) K32 (V.take (N - K32))) := by
                simp [barr, splice]
              rw [← e7]; exact hb6
            case measure => simp [intOf]; omega
        · rw [if_pos (by rfl)]
          refine wp_alloc32 (by rfl) ?_
          have BV := Blk.new v1 (barr (List.replicate 32 0)) 31
          have hb := below_one' v1 (.cells (barr (List.replicate 32 0)) 31)
          have HGE := Lib.hid (show wr.heap.size ≤ v1.heap.size from HS.out.size)
          generalize World.alloc v1 _ = v9 at *
          have HE := Lib.hid (HE.out.on hb)
          have TN := Lib.hid (TN.out.on hb)
          have HT := Lib.hid (HT.out.on hb)
          have HS := Lib.hid (HS.out.trans (hb.mono HS.out.size))
          have TU := Lib.hid (TU.out.on hb)
          replace BV := Lib.hid BV
          clear hb
          refine hK _ _ HS.out (fun _ => ?_)
          clear hK K
          try simp only [Act.put, List.setIfInBounds_toArray, List.set_cons_succ, List.set_cons_zero]
          refine wpAnyH_ready (rs := [5]) (by kernel_rfl) (by simp) ?_
          refine AllReadyH.cons (o := ⟨some 24, .buildSlice 35 2 #[(0, .tmp 20), (1, .tmp 23)], 35, _, _, none⟩) rfl (fun K hK => ?_) AllReadyH.nil
          go_simp
          have BJ := Blk.new v9 #[.slice (some ⟨g0, 0, none⟩) 12 12, .slice (some ⟨gu, 0, none⟩) 4 4] 28
          have hb := below_one' v9 (.cells #[.slice (some ⟨g0, 0, none⟩) 12 12, .slice (some ⟨gu, 0, none⟩) 4 4] 28)
          generalize World.alloc v9 _ = v10 at *
          have HE := Lib.hid (HE.out.on hb)
          have TN := Lib.hid (TN.out.on hb)
          have HT := Lib.hid (HT.out.on hb)
          have HS := Lib.hid (HS.out.trans (hb.mono HS.out.size))
          have TU := Lib.hid (TU.out.on hb)
          have BV := Lib.hid (BV.out.on hb)
          replace BJ := Lib.hid BJ
          clear hb
          refine hK _ _ HS.out (fun _ => ?_)
          clear hK K
          try simp only [Act.put, List.setIfInBounds_toArray, List.set_cons_succ, List.set_cons_zero]
          refine wpAnyH_ready (rs := [6]) (by kernel_rfl) (by simp) ?_
          refine AllReadyH.cons (o := ⟨some 25, .call { callee := .value (.func 40), args := #[.tmp 19, .tmp 24], argTypes := #[28, 35] }, 31, _, _, none⟩) rfl (fun K hK => ?_) AllReadyH.nil
          go_simp
          refine (mac_blk2 v10 _ 28 BJ.out HE.out TN.out TU.out HT.out HEL.out (by rw [be_len]; have := HNL.out; omega)).mono ?_
          rintro e v11 ⟨he, hb⟩
          rw [be32_of HK32.out, ← HVE.out] at he
          subst he
          have HE := Lib.hid (HE.out.on hb)
          have TN := Lib.hid (TN.out.on hb)
          have HT := Lib.hid (HT.out.on hb)
          have HS := Lib.hid (HS.out.trans (hb.mono HS.out.size))
          have TU := Lib.hid (TU.out.on hb)
          have BV := Lib.hid (BV.out.on hb)
          have BJ := Lib.hid (BJ.out.on hb)
          clear hb
          refine hK _ _ HS.out (fun _ => ?_)
          clear hK K
          try simp only [Act.put, List.setIfInBounds_toArray, List.set_cons_succ, List.set_cons_zero]
          refine wpAnyH_ready (rs := [8]) (by kernel_rfl) (by simp) ?_
          refine AllReadyH.cons (o := ⟨none, .store 31 (.tmp 9) (.tmp 25), 0, _, _, none⟩) rfl (fun K hK => ?_) AllReadyH.nil
          rw [if_pos (by rfl)]
          refine wp_store_abs 31 (.tmp 9) (.tmp 25) (by rfl) _ (barr V) (by rfl) (by rfl) BV.out (by rw [barr_size, HVL.out]; exact size_u8x32) (by rw [barr_size, barr_size, HVL.out]; rfl) (barr_one_all _) ?_
          intro v12 hW p9
          have HS9 := Lib.hid (hW.below HS.out HGE.out)
          refine hK _ _ HS9.out (fun _ => ?_)
          clear hK K hW
          refine wpAnyH_done (by kernel_rfl) ?_ _
          generalize v1.heap.size = g9 at *
          clear TU BJ BV HT TN HE HS HGE
          have hcp := HS9.out
          have HO1 := Lib.hid (HOr.out.on hcp)
          have HB1 := Lib.hid (HBr.out.trans (hcp.mono HBr.out.size))
          have HN1 := Lib.hid (HNr.out.on hcp)
          have TV := Lib.hid (out32 p9 HVL.out (Below.refl _ _))
          clear hcp HS9 p9
          go_wp2
          refine wp_region_any (by kernel_rfl) ?_
          change wpAny _ _ _ _ _ _ _ (World.drew v12)
          refine wpAny_take (i := 0) (oi := ⟨some 26, .move (.tmp 7), 28, _, _, none⟩) (v := .slice (some ⟨g0 + 1, 0, none⟩) N N) rfl (by kernel_rfl) (by kernel_rfl) (by kernel_rfl) (fun _ _ _ h => h) (Or.inl ⟨by rfl, fun _ => by go_simp⟩) ?_
          refine wpAny_take (i := 1) (oi := ⟨some 27, .move (.tmp 8), 3, _, _, none⟩) (v := .int .i64 (k : Nat)) rfl (by kernel_rfl) (by kernel_rfl) (by kernel_rfl) (fun _ _ _ h => h) (Or.inl ⟨by rfl, fun _ => by go_simp⟩) ?_
          refine wpAny_take (i := 2) (oi := ⟨some 28, .binOp .mul 3 (.tmp 27) (.const (.int .i64 32)) 3, 3, _, _, none⟩) (v := .int .i64 (K32 : Nat)) rfl (by kernel_rfl) (by kernel_rfl) (by kernel_rfl) (fun _ _ _ h => h) (Or.inl ⟨by rfl, fun _ => by go_simp⟩) ?_
          refine wpAny_take (i := 3) (oi := ⟨some 29, .slice 28 (.tmp 26) (some (.tmp 28)) none none, 28, _, _, none⟩) (v := .slice AK (N - K32) CK) rfl (by kernel_rfl) (by kernel_rfl) (by kernel_rfl) (fun _ _ _ h => h) (Or.inl ⟨by rfl, fun _ => by go_simp⟩) ?_
          refine wpAny_take (i := 4) (oi := ⟨some 30, .slice 31 (.tmp 9) none none none, 28, _, _, none⟩) (v := .slice (some ⟨g9, 0, none⟩) 32 32) rfl (by kernel_rfl) (by kernel_rfl) (by kernel_rfl) (fun _ _ _ h => h) (Or.inl ⟨by rfl, fun _ => by go_simp⟩) ?_
          simp only [Act.put, List.setIfInBounds_toArray, List.set_cons_succ, List.set_cons_zero]
          refine wpAny_ready (rs := [5]) (by kernel_rfl) (by simp) ?_
          refine AllReady.cons (o := ⟨some 31, .call { callee := .builtin .copy, args := #[.tmp 29, .tmp 30], argTypes := #[28, 28] }, 3, _, _, none⟩) rfl (fun K hK => ?_) AllReady.nil
          rw [if_pos (by rfl)]
          refine wp_copy_abs (.tmp 29) (.tmp 30) 28 28 rfl 5 Tryd.underlying28 size_u8 AK (some ⟨g9, 0, none⟩) (N - K32) CK 32 32 (by rfl) (by rfl) (g0 + 1) K32 HO1.out.drew ((V.take (N - K32)).map bv) (by have := HVL.out; simp; omega) (fun _ => HAK.out) (Rd.take_bytes TV.out.drew.rd _) (by rw [barr_size, outz_len]; simp; have := HK32'.out; omega) (bv_one _) (min 32 (N - K32)) (by have := HVL.out; simp; omega) ?_
          intro W6 hW6 hb6
          refine hK _ _ ?_
          clear hK K
          refine wpAny_done (by kernel_rfl) ?_ _
          have HB6 := Lib.hid (hW6.below HB1.out.drew HG1.out)
          have HN6 := Lib.hid (hW6.blk HN1.out.drew HG01.out)
          clear hW6
          go_wp2
          go_roundw
          case rel =>
            refine ⟨k + 1, by have := HKN.out; omega, by go_num, HN6.out, ?_, by rw [HG0.out]; exact HB6.out⟩
            rw [← outz_step enc nonce N k K32 HK32e.out HKlt.out, ← HVE.out]
            have e7 : (splice (barr (outz enc nonce N k)).toList K32 ((V.take (N - K32)).map bv)).toArray = barr (splice (outz enc nonce N k) K32 (V.take (N - K32))) := by
              simp [barr, splice]
            rw [← e7]; exact hb6
          case measure => simp [intOf]; omega
      · rw [if_pos (by rfl)]
        refine wp_alloc32 (by rfl) ?_
        have BV := Blk.new v0 (barr (List.replicate 32 0)) 31
        have hb := below_one' v0 (.cells (barr (List.replicate 32 0)) 31)
        have HGE := Lib.hid (show wr.heap.size ≤ v0.heap.size from HS.out.size)
        generalize World.alloc v0 _ = v13 at *
        have HE := Lib.hid (HE.out.on hb)
        have TN := Lib.hid (TN.out.on hb)
        have HT := Lib.hid (HT.out.on hb)
        have HS := Lib.hid (HS.out.trans (hb.mono HS.out.size))
        replace BV := Lib.hid BV
        clear hb
        refine hK _ _ HS.out (fun _ => ?_)
        clear hK K
        try simp only [Act.put, List.setIfInBounds_toArray, List.set_cons_succ, List.set_cons_zero]
        refine wpAnyH_ready (rs := [4]) (by kernel_rfl) (by simp) ?_
        refine AllReadyH.cons (o := ⟨some 23, .call { callee := .value (.func 101), args := #[.tmp 22], argTypes := #[22] }, 28, _, _, none⟩) rfl (fun K hK => ?_) AllReadyH.nil
        go_simp
        refine (u32_walk (UInt32.ofNat k) _).mono ?_
        rintro e v14 ⟨gu, rfl, hgu, hbu, hb⟩
        have HE := Lib.hid (HE.out.on hb)
        have TN := Lib.hid (TN.out.on hb)
        have HT := Lib.hid (HT.out.on hb)
        have HS := Lib.hid (HS.out.trans (hb.mono HS.out.size))
        have BV := Lib.hid (BV.out.on hb)
        have TU := Lib.hid (by have h := Txt.of_blk hbu; rw [be_len] at h; exact h)
        clear hb hbu hgu
        refine hK _ _ HS.out (fun _ => ?_)
        clear hK K
        try simp only [Act.put, List.setIfInBounds_toArray, List.set_cons_succ, List.set_cons_zero]
        refine wpAnyH_ready (rs := [5]) (by kernel_rfl) (by simp) ?_
        refine AllReadyH.cons (o := ⟨some 24, .buildSlice 35 2 #[(0, .tmp 20), (1, .tmp 23)], 35, _, _, none⟩) rfl (fun K hK => ?_) AllReadyH.nil
        go_simp
        have BJ := Blk.new v14 #[.slice (some ⟨g0, 0, none⟩) 12 12, .slice (some ⟨gu, 0, none⟩) 4 4] 28
        have hb := below_one' v14 (.cells #[.slice (some ⟨g0, 0, none⟩) 12 12, .slice (some ⟨gu, 0, none⟩) 4 4] 28)
        generalize World.alloc v14 _ = v15 at *
        have HE := Lib.hid (HE.out.on hb)
        have TN := Lib.hid (TN.out.on hb)
        have HT := Lib.hid (HT.out.on hb)
        have HS := Lib.hid (HS.out.trans (hb.mono HS.out.size))
        have BV := Lib.hid (BV.out.on hb)
        have TU := Lib.hid (TU.out.on hb)
        replace BJ := Lib.hid BJ
        clear hb
        refine hK _ _ HS.out (fun _ => ?_)
        clear hK K
        try simp only [Act.put, List.setIfInBounds_toArray, List.set_cons_succ, List.set_cons_zero]
        refine wpAnyH_ready (rs := [6]) (by kernel_rfl) (by simp) ?_
        refine AllReadyH.cons (o := ⟨some 25, .call { callee := .value (.func 40), args := #[.tmp 19, .tmp 24], argTypes := #[28, 35] }, 31, _, _, none⟩) rfl (fun K hK => ?_) AllReadyH.nil
        go_simp
        refine (mac_blk2 v15 _ 28 BJ.out HE.out TN.out TU.out HT.out HEL.out (by rw [be_len]; have := HNL.out; omega)).mono ?_
        rintro e v16 ⟨he, hb⟩
        rw [be32_of HK32.out, ← HVE.out] at he
        subst he
        have HE := Lib.hid (HE.out.on hb)
        have TN := Lib.hid (TN.out.on hb)
        have HT := Lib.hid (HT.out.on hb)
        have HS := Lib.hid (HS.out.trans (hb.mono HS.out.size))
        have BV := Lib.hid (BV.out.on hb)
        have TU := Lib.hid (TU.out.on hb)
        have BJ := Lib.hid (BJ.out.on hb)
        clear hb
        refine hK _ _ HS.out (fun _ => ?_)
        clear hK K
        try simp only [Act.put, List.setIfInBounds_toArray, List.set_cons_succ, List.set_cons_zero]
        refine wpAnyH_ready (rs := [8]) (by kernel_rfl) (by simp) ?_
        refine AllReadyH.cons (o := ⟨none, .store 31 (.tmp 9) (.tmp 25), 0, _, _, none⟩) rfl (fun K hK => ?_) AllReadyH.nil
        rw [if_pos (by rfl)]
        refine wp_store_abs 31 (.tmp 9) (.tmp 25) (by rfl) _ (barr V) (by rfl) (by rfl) BV.out (by rw [barr_size, HVL.out]; exact size_u8x32) (by rw [barr_size, barr_size, HVL.out]; rfl) (barr_one_all _) ?_
        intro v17 hW p9
        have HS9 := Lib.hid (hW.below HS.out HGE.out)
        refine hK _ _ HS9.out (fun _ => ?_)
        clear hK K hW
        refine wpAnyH_done (by kernel_rfl) ?_ _
        generalize v0.heap.size = g9 at *
        clear TU BJ BV HT TN HE HS HGE
        have hcp := HS9.out
        have HO1 := Lib.hid (HOr.out.on hcp)
        have HB1 := Lib.hid (HBr.out.trans (hcp.mono HBr.out.size))
        have HN1 := Lib.hid (HNr.out.on hcp)
        have TV := Lib.hid (out32 p9 HVL.out (Below.refl _ _))
        clear hcp HS9 p9
        go_wp2
        refine wp_region_any (by kernel_rfl) ?_
        change wpAny _ _ _ _ _ _ _ (World.drew v17)
        refine wpAny_take (i := 0) (oi := ⟨some 26, .move (.tmp 7), 28, _, _, none⟩) (v := .slice (some ⟨g0 + 1, 0, none⟩) N N) rfl (by kernel_rfl) (by kernel_rfl) (by kernel_rfl) (fun _ _ _ h => h) (Or.inl ⟨by rfl, fun _ => by go_simp⟩) ?_
        refine wpAny_take (i := 1) (oi := ⟨some 27, .move (.tmp 8), 3, _, _, none⟩) (v := .int .i64 (k : Nat)) rfl (by kernel_rfl) (by kernel_rfl) (by kernel_rfl) (fun _ _ _ h => h) (Or.inl ⟨by rfl, fun _ => by go_simp⟩) ?_
        refine wpAny_take (i := 2) (oi := ⟨some 28, .binOp .mul 3 (.tmp 27) (.const (.int .i64 32)) 3, 3, _, _, none⟩) (v := .int .i64 (K32 : Nat)) rfl (by kernel_rfl) (by kernel_rfl) (by kernel_rfl) (fun _ _ _ h => h) (Or.inl ⟨by rfl, fun _ => by go_simp⟩) ?_
        refine wpAny_take (i := 3) (oi := ⟨some 29, .slice 28 (.tmp 26) (some (.tmp 28)) none none, 28, _, _, none⟩) (v := .slice AK (N - K32) CK) rfl (by kernel_rfl) (by kernel_rfl) (by kernel_rfl) (fun _ _ _ h => h) (Or.inl ⟨by rfl, fun _ => by go_simp⟩) ?_
        refine wpAny_take (i := 4) (oi := ⟨some 30, .slice 31 (.tmp 9) none none none, 28, _, _, none⟩) (v := .slice (some ⟨g9, 0, none⟩) 32 32) rfl (by kernel_rfl) (by kernel_rfl) (by kernel_rfl) (fun _ _ _ h => h) (Or.inl ⟨by rfl, fun _ => by go_simp⟩) ?_
        simp only [Act.put, List.setIfInBounds_toArray, List.set_cons_succ, List.set_cons_zero]
        refine wpAny_ready (rs := [5]) (by kernel_rfl) (by simp) ?_
        refine AllReady.cons (o := ⟨some 31, .call { callee := .builtin .copy, args := #[.tmp 29, .tmp 30], argTypes := #[28, 28] }, 3, _, _, none⟩) rfl (fun K hK => ?_) AllReady.nil
        rw [if_pos (by rfl)]
        refine wp_copy_abs (.tmp 29) (.tmp 30) 28 28 rfl 5 Tryd.underlying28 size_u8 AK (some ⟨g9, 0, none⟩) (N - K32) CK 32 32 (by rfl) (by rfl) (g0 + 1) K32 HO1.out.drew ((V.take (N - K32)).map bv) (by have := HVL.out; simp; omega) (fun _ => HAK.out) (Rd.take_bytes TV.out.drew.rd _) (by rw [barr_size, outz_len]; simp; have := HK32'.out; omega) (bv_one _) (min 32 (N - K32)) (by have := HVL.out; simp; omega) ?_
        intro W6 hW6 hb6
        refine hK _ _ ?_
        clear hK K
        refine wpAny_done (by kernel_rfl) ?_ _
        have HB6 := Lib.hid (hW6.below HB1.out.drew HG1.out)
        have HN6 := Lib.hid (hW6.blk HN1.out.drew HG01.out)
        clear hW6
        go_wp2
        go_roundw
        case rel =>
          refine ⟨k + 1, by have := HKN.out; omega, by go_num, HN6.out, ?_, by rw [HG0.out]; exact HB6.out⟩
          rw [← outz_step enc nonce N k K32 HK32e.out HKlt.out, ← HVE.out]
          have e7 : (splice (barr (outz enc nonce N k)).toList K32 ((V.take (N - K32)).map bv)).toArray = barr (splice (outz enc nonce N k) K32 (V.take (N - K32))) := by
            simp [barr, splice]
          rw [← e7]; exact hb6
        case measure => simp [intOf]; omega
    · have HKE := Lib.hid (show k = M by omega)
      go_wp2
      go_ret
      refine ⟨g0 + 1, rfl, HG1.out, ?_, HBr.out⟩
      have h := HOr.out
      rw [HKE.out, HM.out, outz_full] at h
      exact h
end Go.Proofs.YtgbahfggnbpnmaaDoor
