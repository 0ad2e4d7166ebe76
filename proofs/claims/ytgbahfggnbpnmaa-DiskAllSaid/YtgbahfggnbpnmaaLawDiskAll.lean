import Derived.Test.YtgbahfggnbpnmaaLwW
/-
  The walk of liverylaw17.DiskAll.
-/
namespace Go.Proofs.Ytgbahfggnbpnmaa
open Go.RowKit
set_option maxRecDepth 100000 in
set_option maxHeartbeats 2000000 in
theorem diskAll_walk (n : Int) (os os2 : List KOp) (a a2 : Option Addr) (m c m2 c2 : Nat) (w0 : World) (hK : KsIn w0 a m c os) (hK2 : KsIn w0 a2 m2 c2 os2) :
    Calls Try.prog 5 #[.int .i64 n, .slice a m c, .slice a2 m2 c2] w0 fun e w' => e = .returned (.bool true) ∧ Below w0.heap.size w0 w' := by
  have HK1 := Lib.hid hK
  have HK := Lib.hid hK2
  have HN := Lib.hid hK2.1
  have hn63 : m2 ≤ 9223372036854775807 := by have h1 := hK2.2.1; have h2 := hK2.2.2.1; unfold maxLen at h2; omega
  clear hK hK2
  go_enter Try.func5, Try.ntmps5
  go_wp2_with fail
  refine (worn_walk n os a m c _ HK1.out).mono ?_
  rintro e w1 ⟨p, rfl, hb1, hp⟩
  have HB1 := Lib.hid hb1
  have HP := Lib.hid hp
  clear hb1 hp
  go_wp2_with fail
  refine (live17_walk _).mono ?_
  rintro e w2 ⟨rfl, hb⟩
  have HB2 := Lib.hid (HB1.out.trans (hb.mono HB1.out.size))
  have HP := Lib.hid (show p = none ∨ ∃ b g nn v S, p = some ⟨b, 0, none⟩ ∧ Worn w0 w2 b g nn v S from HP.out.imp id fun ⟨b, g, nn, v, S, e, hW⟩ => ⟨b, g, nn, v, S, e, ⟨hW.d.on hb, hW.n, hW.fd, hW.calm, hW.lim⟩⟩)
  clear hb HB1
  rcases HP.out with rfl | ⟨b, g, nn, v, S, rfl, hW⟩
  · clear HP
    go_wp2_with fail
    refine (live17_walk _).mono ?_
    rintro e w3 ⟨rfl, hb⟩
    have HB3 := Lib.hid (HB2.out.trans (hb.mono HB2.out.size))
    clear hb
    go_wp2
    go_ret
    exact ⟨rfl, HB3.out⟩
  have HWN := Lib.hid hW
  clear hW HP
  go_wp2_with fail
  refine (few17_walk os2 a2 m2 c2 _ (HK.out.on HB2.out)).mono ?_
  rintro e w3 ⟨M, rfl, hM, hb⟩
  have HB3 := Lib.hid (HB2.out.trans (hb.mono HB2.out.size))
  have HD := Lib.hid (HWN.out.d.on hb)
  cases M with
  | false =>
    clear hM hb
    go_wp2_with fail
    refine (live17_walk _).mono ?_
    rintro e w4 ⟨rfl, hb⟩
    have HB4 := Lib.hid (HB3.out.trans (hb.mono HB3.out.size))
    clear hb
    go_wp2
    go_ret
    exact ⟨rfl, HB4.out⟩
  | true =>
    have HW := Lib.hid (hM rfl)
    have HL := Lib.hid (show os2.length ≤ 200 from (hM rfl).2)
    clear hM hb HB2
    have HJ := Lib.hid (show WJ w0 w3 b g nn S os2 0 from ⟨v, HD.out, HWN.out.fd, HWN.out.lim.mono (by omega), HB3.out⟩)
    go_wp2
    go_loopw [32] (fun y wr => ∃ k : Nat, k ≤ m2 ∧ y = .int .i64 (k : Nat) ∧ Hid (WJ w0 wr b g nn S os2 k)) (fun y _ => m2 - (intOf y).toNat)
    case atStart => exact ⟨0, Nat.zero_le _, rfl, HJ.out⟩
    case round =>
      obtain ⟨k, hk, rfl, HJ⟩ := hrel
      by_cases hlt : k < m2
      · obtain ⟨gk, ok, op, ab, ap, nb, cb, np, cp, ha, hop, hr, htb, htp, hin, hnl⟩ := HK.out.at_ hlt HW.out
        subst ha
        have HR := Lib.hid (range_on hr HJ.out.bl)
        have HOP := Lib.hid hop
        have HTB := Lib.hid htb
        have HTP := Lib.hid htp
        have HIN := Lib.hid hin
        have HNL := Lib.hid hnl
        have HLT := Lib.hid (show k < os2.length by have := HN.out; omega)
        clear hr hop htb htp hin hnl
        have HZ := Lib.hid (kz_kop op ab ap nb cb np cp)
        by_cases ha : op.act = 1
        · have ha1 : (op.act == 1) = true := by simp [ha]
          have HA := Lib.hid ha
          clear ha
          go_wp2_with (first | (refine wpList_load_mid rfl 33 (.tmp 34) rfl gk (ok + k * 6) rfl (kcells op ab ap nb cb np cp) _ HR.out Try.underlying33 rfl size_kop ?_) | (refine wpList_store_abs rfl 33 (.tmp 9) (.tmp 35) rfl wr.heap.size (kcells op ab ap nb cb np cp).toArray (by rfl) (by rfl) 33 _ (Blk.new wr _ _) HZ.out (by rfl) (kcells_one _ _ _ _ _ _ _) ?_; intro W hW p5; have hbw := hW.below ((Below.refl _ wr).alloc (Nat.le_refl _) _) (Nat.le_refl _); have HJ := Lib.hid (HJ.out.on hbw); have HP5 := Lib.hid p5; have b0 := p5.cell 0 (kcell0 _ _ _ _ _ _ _); clear hW p5 hbw) | (refine wpList_load_sub rfl 33 (.tmp 9) rfl wr.heap.size 0 rfl HP5.out (kcells op ab ap nb cb np cp) (fun j _ => by simp) _ Try.underlying33 rfl size_kop ?_))
          clear b0
          generalize wr.heap.size = bx at *
          have HS := HP5
          refine wp_region_held_drew (S := fun W => Blk W bx (kcells op ab ap nb cb np cp).toArray 33) (by kernel_rfl) HS.out (fun _ => ?_)
          have hb : Below W.heap.size W (World.drew W) := (Below.refl _ _).drew
          have HS := Lib.hid (HS.out.on hb)
          have HJ := Lib.hid (HJ.out.on hb)
          clear hb
          generalize World.drew W = v0 at *
          try simp only [Act.put, List.setIfInBounds_toArray, List.set_cons_succ, List.set_cons_zero]
          refine wpAnyH_take (i := 0) (oi := ⟨some 39, .move (.tmp 7), _, _, _, none⟩) (v := .pointer (some ⟨b, 0, none⟩)) rfl (by kernel_rfl) (by kernel_rfl) (by kernel_rfl) (fun _ _ _ h => h) (Or.inl ⟨by rfl, fun _ _ => by go_simp⟩) HS.out ?_
          try simp only [Act.put, List.setIfInBounds_toArray, List.set_cons_succ, List.set_cons_zero]
          refine wpAnyH_take (i := 1) (oi := ⟨some 40, .fieldAddr 33 (.tmp 9) 1, _, _, _, none⟩) (v := .pointer (some ⟨bx, 1, none⟩)) rfl (by kernel_rfl) (by kernel_rfl) (by kernel_rfl) (fun _ _ _ h => h) (Or.inl ⟨by rfl, fun _ _ => by go_simp⟩) HS.out ?_
          try simp only [Act.put, List.setIfInBounds_toArray, List.set_cons_succ, List.set_cons_zero]
          refine wpAnyH_take (i := 2) (oi := ⟨some 41, .load 3 (.tmp 40), 3, _, _, none⟩) (v := .int .i64 op.i) rfl (by kernel_rfl) (by kernel_rfl) (by kernel_rfl) (fun _ _ _ h => h) (Or.inl ⟨by rfl, fun vv hvv => by have q := hvv.cell 1 (kcell1 _ _ _ _ _ _ _); clear hvv; unfold execOp; go_simp⟩) HS.out ?_
          try simp only [Act.put, List.setIfInBounds_toArray, List.set_cons_succ, List.set_cons_zero]
          refine wpAnyH_take (i := 3) (oi := ⟨some 42, .fieldAddr 33 (.tmp 9) 3, _, _, _, none⟩) (v := .pointer (some ⟨bx, 3, none⟩)) rfl (by kernel_rfl) (by kernel_rfl) (by kernel_rfl) (fun _ _ _ h => h) (Or.inl ⟨by rfl, fun _ _ => by go_simp⟩) HS.out ?_
          try simp only [Act.put, List.setIfInBounds_toArray, List.set_cons_succ, List.set_cons_zero]
          refine wpAnyH_take (i := 4) (oi := ⟨some 43, .load 5 (.tmp 42), 5, _, _, none⟩) (v := .int .u8 op.x.toNat) rfl (by kernel_rfl) (by kernel_rfl) (by kernel_rfl) (fun _ _ _ h => h) (Or.inl ⟨by rfl, fun vv hvv => by have q := hvv.cell 3 (kcell3 _ _ _ _ _ _ _); clear hvv; unfold execOp; go_simp⟩) HS.out ?_
          try simp only [Act.put, List.setIfInBounds_toArray, List.set_cons_succ, List.set_cons_zero]
          refine wpAnyH_ready (rs := [5]) (by kernel_rfl) (by simp) ?_
          refine AllReadyH.cons (o := ⟨some 44, .call { callee := .value (.func 16), args := #[.tmp 43], argTypes := #[5] }, 30, _, _, none⟩) rfl (fun K hK => ?_) AllReadyH.nil
          go_simp
          refine (block_walk op.x v0).mono ?_
          rintro e v1 ⟨g1, rfl, hB, hge, hb⟩
          have HS := Lib.hid (HS.out.on hb)
          have HJ := Lib.hid (HJ.out.on hb)
          have HB1 := Lib.hid (hB)
          clear hb hB hge
          refine hK _ _ HS.out (fun _ => ?_)
          clear hK K
          try simp only [Act.put, List.setIfInBounds_toArray, List.set_cons_succ, List.set_cons_zero]
          refine wpAnyH_ready (rs := [6]) (by kernel_rfl) (by simp) ?_
          refine AllReadyH.cons (o := ⟨some 45, .call { callee := .value (.func 15), args := #[.tmp 39, .tmp 41, .tmp 44], argTypes := #[24, 3, 30] }, 28, _, _, none⟩) rfl (fun K hK => ?_) AllReadyH.nil
          go_simp
          refine (HJ.out.write HLT.out HL.out HOP.out HA.out (blk_txt HB1.out)).mono ?_
          rintro e v2 ⟨r, rfl, hJ, v6, hD, hO⟩
          have HS := Lib.hid (hO.blk HS.out (hD.foot_ty HS.out (by decide)))
          have HJ := Lib.hid hJ
          clear hJ hD hO HB1
          refine hK _ _ HS.out (fun _ => ?_)
          clear hK K
          try simp only [Act.put, List.setIfInBounds_toArray, List.set_cons_succ, List.set_cons_zero]
          refine wpAnyH_done (by kernel_rfl) ?_ _
          go_wp2
          go_roundw
          case rel => exact ⟨k + 1, by have := HLT.out; have := HN.out; omega, by go_num, HJ.out⟩
          case measure => have := HLT.out; have := HN.out; simp [intOf]; omega
        · have ha1 : (op.act == 1) = false := by simp [ha]
          have HA := Lib.hid ha
          clear ha
          go_wp2_with (first | (refine wpList_load_mid rfl 33 (.tmp 34) rfl gk (ok + k * 6) rfl (kcells op ab ap nb cb np cp) _ HR.out Try.underlying33 rfl size_kop ?_) | (refine wpList_store_abs rfl 33 (.tmp 9) (.tmp 35) rfl wr.heap.size (kcells op ab ap nb cb np cp).toArray (by rfl) (by rfl) 33 _ (Blk.new wr _ _) HZ.out (by rfl) (kcells_one _ _ _ _ _ _ _) ?_; intro W hW p5; have hbw := hW.below ((Below.refl _ wr).alloc (Nat.le_refl _) _) (Nat.le_refl _); have HJ := Lib.hid (HJ.out.on hbw); have HP5 := Lib.hid p5; have b0 := p5.cell 0 (kcell0 _ _ _ _ _ _ _); clear hW p5 hbw) | (refine wpList_load_sub rfl 33 (.tmp 9) rfl wr.heap.size 0 rfl HP5.out (kcells op ab ap nb cb np cp) (fun j _ => by simp) _ Try.underlying33 rfl size_kop ?_))
          have HJ := Lib.hid (HJ.out.skip HLT.out HOP.out HA.out)
          go_roundw
          case rel => exact ⟨k + 1, by have := HLT.out; have := HN.out; omega, by go_num, HJ.out⟩
          case measure => have := HLT.out; have := HN.out; simp [intOf]; omega
      · have HE := Lib.hid (show os2.take k = os2 from List.take_of_length_le (by have := HN.out; omega))
        obtain ⟨vd, h1, h2, h3, h4⟩ := HJ.out
        rw [HE.out] at h1 h3
        obtain ⟨T, hT⟩ : ∃ T, T = os2.foldl wrO S := ⟨_, rfl⟩
        have HC := Lib.hid (show T.Calm by rw [hT]; exact Calm.wrs HWN.out.calm os2)
        rw [← hT] at h1 h3
        have HD := Lib.hid h1
        have HFD := Lib.hid h2
        have HTL := Lib.hid (show T.wait.length ≤ 1000 ∧ T.ops ≤ 1000 from by have := h3.1; have := h3.2; have := HN.out; have := HL.out; omega)
        have HB := Lib.hid h4
        clear h1 h2 h3 h4 hT
        go_wp2_with fail
        refine (dclone_at _ HD.out (by have := HTL.out.1; omega)).mono ?_
        rintro e w4 ⟨ca, ga, va, rfl, hC, hfc, hb⟩
        have HAC := Lib.hid (Apart.new HD.out hfc)
        have HFC := Lib.hid (show ∀ k, Foot ca ga va k → w0.heap.size ≤ k from fun k hk => Nat.le_trans HB.out.size (hfc k hk))
        have HD := Lib.hid (HD.out.on hb)
        have HDA := Lib.hid hC
        have HB := Lib.hid (HB.out.trans (hb.mono HB.out.size))
        clear hC hfc hb
        go_wp2_with fail
        refine (dclone_at _ HD.out (by have := HTL.out.1; omega)).mono ?_
        rintro e w5 ⟨cc, gc, vc, rfl, hH, hfh, hb⟩
        have HAH := Lib.hid (Apart.new HD.out hfh)
        have HCH := Lib.hid (Apart.new HDA.out hfh)
        have HFH := Lib.hid (show ∀ k, Foot cc gc vc k → w0.heap.size ≤ k from fun k hk => Nat.le_trans HB.out.size (hfh k hk))
        have HD := Lib.hid (HD.out.on hb)
        have HDA := Lib.hid (HDA.out.on hb)
        have HDB := Lib.hid hH
        have HB := Lib.hid (HB.out.trans (hb.mono HB.out.size))
        clear hH hfh hb
        go_wp2_with fail
        refine (dimage_at _ HD.out).mono ?_
        rintro e w6 ⟨ai, mi, rfl, hOi, hb⟩
        have HWI := Lib.hid hOi.tu
        have HD := Lib.hid (HD.out.on hb)
        have HDA := Lib.hid (HDA.out.on hb)
        have HDB := Lib.hid (HDB.out.on hb)
        have HB := Lib.hid (HB.out.trans (hb.mono HB.out.size))
        clear hOi hb
        go_wp2_with fail
        refine (dwaits_at _ HD.out).mono ?_
        rintro e w7 ⟨rfl, rfl⟩
        obtain ⟨wn, hwn⟩ : ∃ wn, wn = T.wait.length := ⟨_, rfl⟩
        rw [← hwn]
        have HWNN := Lib.hid hwn
        have hwn1 : wn ≤ 1000 := by rw [hwn]; exact HTL.out.1
        clear hwn
        go_wp2_with (refine wpList_make_rows rfl 23 (.tmp 60) (.tmp 60) rfl 4 (.bool false) (.bool false) 1 1 Try.underlying23 bool_info (by rfl) (by decide) .i64 .i64 wn wn rfl rfl (Nat.le_refl _) (by omega) (by omega) ?_; have hb := below_one' w7 (.cells (Array.replicate (wn * 1) (.bool false)) 4); have HD := Lib.hid (HD.out.on hb); have HDA := Lib.hid (HDA.out.on hb); have HDB := Lib.hid (HDB.out.on hb); have HWI := Lib.hid (HWI.out.on hb); have HAL := Lib.hid (show Blk (w7.alloc (.cells (Array.replicate (wn * 1) (.bool false)) 4)) w7.heap.size (blarr 0 wn) 4 by rw [← blarr_zero]; exact Blk.new w7 _ _); have HSZ := Lib.hid HB.out.size; have HB := Lib.hid (HB.out.trans (hb.mono HB.out.size)); clear hb)
        rw [Nat.mul_one] at HD HDA HDB HWI HAL HB
        generalize w7.heap.size = gl at *
        generalize World.alloc w7 _ = w8 at *
        go_loopw [64] (fun y wr => ∃ k : Nat, k ≤ wn ∧ y = .int .i64 (k : Nat) ∧ Hid (Blk wr gl (blarr k wn) 4) ∧ Hid (DiskAt wr b g nn vd T) ∧ Hid (DiskAt wr ca ga nn va T) ∧ Hid (DiskAt wr cc gc nn vc T) ∧ Hid (TU wr (.slice ai mi mi) T.image) ∧ Hid (Below w0.heap.size w0 wr)) (fun y _ => wn - (intOf y).toNat)
        case atStart => exact ⟨0, Nat.zero_le _, rfl, HAL.out, HD.out, HDA.out, HDB.out, HWI.out, HB.out⟩
        case round =>
          obtain ⟨k, hk, rfl, HAL, HD, HDA, HDB, HWI, HB⟩ := hrel
          by_cases hlt : k < wn
          · have HLT := Lib.hid hlt
            have hc : wr.cell? ⟨gl, k, none⟩ = some (.bool false) := HAL.out.cell k (blarr_at hlt)
            have hf := HAL.out.free k
            go_wp2
            have hOc : Only (· = gl) wr (wr.setCell ⟨gl, k, none⟩ (.bool true)) := Only.cell wr _ rfl
            have HOC := Lib.hid hOc
            have HAL2 := Lib.hid (show Blk (wr.setCell ⟨gl, k, none⟩ (.bool true)) gl (blarr (k + 1) wn) 4 by rw [← blarr_step HLT.out]; exact HAL.out.set k _)
            clear hOc hc hf
            go_roundw
            case rel => exact ⟨k + 1, by have := HLT.out; omega, by go_num, HAL2.out, HD.out.keep HOC.out (fun j hj e => HD.out.foot_ty HAL.out (by decide) (e ▸ hj)), HDA.out.keep HOC.out (fun j hj e => HDA.out.foot_ty HAL.out (by decide) (e ▸ hj)), HDB.out.keep HOC.out (fun j hj e => HDB.out.foot_ty HAL.out (by decide) (e ▸ hj)), HWI.out.keep HOC.out (fun j cur hb e => blk_type_ne (by rw [← e]; exact hb) HAL.out (by decide) rfl), HB.out.trans (HOC.out.below (fun j e => by subst e; exact HSZ.out) HB.out.size)⟩
            case measure => have := HLT.out; simp [intOf]; omega
          · obtain rfl : k = wn := by omega
            have HRD := Lib.hid (blarr_reads HAL.out)
            go_wp2_with fail
            refine (dcrash_at _ k k (List.replicate k true) (by rw [List.length_replicate]) _ HDA.out (by have := HTL.out.1; omega) HRD.out).mono ?_
            rintro e w9 ⟨⟨u9, rfl⟩, va2, hD, hO, hv⟩
            rw [show List.replicate k true = List.replicate T.wait.length true by rw [HWNN.out]] at hD
            have HD := Lib.hid (HD.out.keep hO (fun j hj q => HAC.out j hj q))
            have HDB := Lib.hid (HDB.out.keep hO (fun j hj q => HCH.out j q hj))
            have HWI := Lib.hid (HWI.out.keepD HDA.out hO)
            have HB := Lib.hid (HB.out.trans (hO.below HFC.out HB.out.size))
            have HAC := Lib.hid (HAC.out.symm.grow (m := w9.heap.size) (fun j e => .inl (hv j e)) (fun j hj => HD.out.foot_lt hj))
            have HCH := Lib.hid (HCH.out.grow (m := w9.heap.size) (fun j e => .inl (hv j e)) (fun j hj => HDB.out.foot_lt hj))
            have HDA := Lib.hid hD
            clear hD hO hv HAL HRD
            go_wp2_with fail
            refine (dcrash_at none 0 0 [] rfl _ HDB.out (by have := HTL.out.1; omega) (fun i hi => by cases hi)).mono ?_
            rintro e wa ⟨⟨ua, rfl⟩, vc2, hD, hO, hv⟩
            have HD := Lib.hid (HD.out.keep hO (fun j hj q => HAH.out j hj q))
            have HDA := Lib.hid (HDA.out.keep hO (fun j hj q => HCH.out j hj q))
            have HWI := Lib.hid (HWI.out.keepD HDB.out hO)
            have HB := Lib.hid (HB.out.trans (hO.below HFH.out HB.out.size))
            have HAH := Lib.hid (HAH.out.symm.grow (m := wa.heap.size) (fun j e => .inl (hv j e)) (fun j hj => HD.out.foot_lt hj))
            have HDB := Lib.hid hD
            clear hD hO hv
            go_wp2_with fail
            refine (dsync_at _ HD.out (by have := HTL.out.2; omega) (by have := HTL.out.1; omega)).mono ?_
            rintro e wb ⟨rfl, vd2, hD, hO, hv⟩
            rw [calm_sync HC.out] at hD ⊢
            have HDA := Lib.hid (HDA.out.keep hO (fun j hj q => HAC.out j hj q))
            have HDB := Lib.hid (HDB.out.keep hO (fun j hj q => HAH.out j hj q))
            have HWI := Lib.hid (HWI.out.keepD HD.out hO)
            have HB := Lib.hid (HB.out.trans (hO.below HFD.out HB.out.size))
            have HD := Lib.hid hD
            clear hD hO hv
            go_wp2_with fail
            refine (dimage_at _ HDA.out).mono ?_
            rintro e wc ⟨a1, m1, rfl, hO, hb⟩
            have HIA := Lib.hid (show Txt wc a1 m1 m1 (settle T.good T.wait (fun _ => true)).flatten by have := hO.txt; unfold DS.image at this; rwa [crash_all] at this)
            have HD := Lib.hid (HD.out.on hb)
            have HDA := Lib.hid (HDA.out.on hb)
            have HDB := Lib.hid (HDB.out.on hb)
            have HWI := Lib.hid (HWI.out.on hb)
            have HB := Lib.hid (HB.out.trans (hb.mono HB.out.size))
            clear hO hb
            go_wp2_with fail
            refine (dimage_at _ HD.out).mono ?_
            rintro e wd ⟨a3, m3, rfl, hO, hb⟩
            have HIA := Lib.hid (HIA.out.below hb)
            have HIB := Lib.hid (show Txt wd a3 m3 m3 (settle T.good T.wait (fun _ => true)).flatten from hO.txt)
            have HDA := Lib.hid (HDA.out.on hb)
            have HDB := Lib.hid (HDB.out.on hb)
            have HWI := Lib.hid (HWI.out.on hb)
            have HB := Lib.hid (HB.out.trans (hb.mono HB.out.size))
            clear hO hb
            go_wp2_with fail
            refine (equal_q _ _ _ _ _ _ _ _ HIA.out HIB.out).mono ?_
            rintro e we ⟨rfl, rfl⟩
            go_wp2_with fail
            refine (dimage_at _ HDB.out).mono ?_
            rintro e wf ⟨a4, m4, rfl, hO, hb⟩
            have HIB := Lib.hid (show Txt wf a4 m4 m4 T.image by have := hO.txt; unfold DS.image at this ⊢; rwa [crash_nil] at this)
            have HDA := Lib.hid (HDA.out.on hb)
            have HDB := Lib.hid (HDB.out.on hb)
            have HWI := Lib.hid (HWI.out.on hb)
            have HB := Lib.hid (HB.out.trans (hb.mono HB.out.size))
            clear hO hb
            obtain ⟨ai', mi', ci', ewi, hwi, _⟩ := HWI.out
            cases ewi
            have HWT := Lib.hid hwi
            clear hwi
            go_wp2_with fail
            refine (equal_q _ _ _ _ _ _ _ _ HIB.out HWT.out).mono ?_
            rintro e wg ⟨rfl, rfl⟩
            go_wp2_with fail
            refine (dwaits_at _ HDA.out).mono ?_
            rintro e wg ⟨rfl, rfl⟩
            go_wp2_with fail
            refine (dwaits_at _ HDB.out).mono ?_
            rintro e wg ⟨rfl, rfl⟩
            go_wp2
            go_ret
            exact ⟨rfl, HB.out⟩
end Go.Proofs.Ytgbahfggnbpnmaa
