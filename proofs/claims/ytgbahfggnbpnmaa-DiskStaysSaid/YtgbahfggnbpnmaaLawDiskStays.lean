import Derived.Test.YtgbahfggnbpnmaaLwM
import Derived.Deep.QuietTactic
import Derived.BigQuiet
import Derived.WalkArith
/-
  The walk of liverylaw17.DiskStays.
-/
namespace Go.Proofs.Ytgbahfggnbpnmaa
open Go.RowKit Go.Maps
set_option maxRecDepth 100000 in
set_option maxHeartbeats 40000000 in
theorem diskStays_walk (n : Int) (os os2 : List KOp) (a a2 : Option Addr) (m c m2 c2 : Nat) (w0 : World) (hK : KsIn w0 a m c os) (hK2 : KsIn w0 a2 m2 c2 os2) (pq : Option Addr) (nq cq : Nat) (pk : List Bool) (hP : BTx w0 pq nq cq pk) :
    Calls Try.prog 4 #[.int .i64 n, .slice a m c, .slice a2 m2 c2, .slice pq nq cq] w0 fun e w' => e = .returned (.bool true) ∧ Below w0.heap.size w0 w' := by
  have HPQ := Lib.hid hP
  clear hP
  have HK1 := Lib.hid hK
  have HK := Lib.hid hK2
  have HN := Lib.hid hK2.1
  have hn63 : m2 ≤ 9223372036854775807 := by have h1 := hK2.2.1; have h2 := hK2.2.2.1; unfold maxLen at h2; omega
  clear hK hK2
  go_enter Try.func4, Try.ntmps4
  go_wp2_with fail
  refine (worn_walk n os a m c _ HK1.out).mono ?_
  rintro e w1 ⟨p, rfl, hb1, hp⟩
  have HB1 := Lib.hid hb1
  have HP := Lib.hid hp
  clear hb1 hp
  go_wp2_with fail
  refine (live17_walk _).mono ?_
  rintro e w2 ⟨rfl, hb⟩
  have HB2 := Lib.hid (HB1.out.trans (hb.mono HB1.out.size))
  have HP := Lib.hid (show p = none ∨ ∃ b g nn v S, p = some ⟨b, 0, none⟩ ∧ Worn w0 w2 b g nn v S from HP.out.imp id fun ⟨b, g, nn, v, S, e, hW⟩ => ⟨b, g, nn, v, S, e, ⟨hW.d.on hb, hW.n, hW.fd, hW.calm, hW.lim⟩⟩)
  clear hb HB1
  rcases HP.out with rfl | ⟨b, g, nn, v, S, rfl, hW⟩
  · clear HP
    go_wp2_with fail
    refine (live17_walk _).mono ?_
    rintro e w3 ⟨rfl, hb⟩
    have HB3 := Lib.hid (HB2.out.trans (hb.mono HB2.out.size))
    clear hb
    go_wp2
    go_ret
    exact ⟨rfl, HB3.out⟩
  have HWN := Lib.hid hW
  clear hW HP
  go_wp2_with fail
  refine (few17_walk os2 a2 m2 c2 _ (HK.out.on HB2.out)).mono ?_
  rintro e w3 ⟨M, rfl, hM, hb⟩
  have HB3 := Lib.hid (HB2.out.trans (hb.mono HB2.out.size))
  have HD := Lib.hid (HWN.out.d.on hb)
  cases M with
  | false =>
    clear hM hb
    go_wp2_with fail
    refine (live17_walk _).mono ?_
    rintro e w4 ⟨rfl, hb⟩
    have HB4 := Lib.hid (HB3.out.trans (hb.mono HB3.out.size))
    clear hb
    go_wp2
    go_ret
    exact ⟨rfl, HB4.out⟩
  | true =>
    have HW := Lib.hid (hM rfl)
    have HL := Lib.hid (show os2.length ≤ 200 from (hM rfl).2)
    clear hM hb HB2
    by_cases hpk : 1000 < nq
    · have hpk1 : (1000 : Int) < (nq : Int) := by omega
      go_wp2_with fail
      refine (live17_walk _).mono ?_
      rintro e w4 ⟨rfl, hb⟩
      have HB4 := Lib.hid (HB3.out.trans (hb.mono HB3.out.size))
      clear hb
      go_wp2
      go_ret
      exact ⟨rfl, HB4.out⟩
    have hpk1 : ¬ (1000 : Int) < (nq : Int) := by omega
    go_wp2_with fail
    refine (dsync_at _ HD.out (by have := HWN.out.lim.2; omega) (by have := HWN.out.lim.1; omega)).mono ?_
    rintro e w4 ⟨rfl, v4, hD, hO, hv⟩
    rw [sync_eq HWN.out.calm] at hD ⊢
    have HFD := Lib.hid (foot_new HWN.out.fd HB3.out.size (fun k e => .inl (hv k e)))
    have HB := Lib.hid (HB3.out.trans (hO.below HWN.out.fd HB3.out.size))
    have HD := Lib.hid (show DiskAt w4 b g nn v4 (syncS S) from hD)
    have HS1 := Lib.hid (show (syncS S).good.length = nn ∧ ∀ s, s ∈ (syncS S).good → s.length = 256 from ⟨hD.ok.len, hD.ok.sec⟩)
    have HNN := Lib.hid HWN.out.n
    clear hD hO hv HB3
    go_wp2_with fail
    refine (dimage_at _ HD.out).mono ?_
    rintro e w5 ⟨ai, mi, rfl, hOi, hb⟩
    obtain ⟨ll, hll⟩ : ∃ ll, ll = 256 * nn := ⟨_, rfl⟩
    have HLL := Lib.hid hll
    obtain rfl : ll = mi := by
      have e1 := hOi.len
      unfold DS.image at e1
      rw [flat_size HS1.out.2, HS1.out.1] at e1
      omega
    have HWI := Lib.hid hOi.tu
    have HD := Lib.hid (HD.out.on hb)
    have HB := Lib.hid (HB.out.trans (hb.mono HB.out.size))
    clear hOi hb hll
    have HJ := Lib.hid (show WJ w0 w5 b g nn (syncS S) os2 0 from ⟨v4, HD.out, HFD.out, (syncS_lim HWN.out.lim).mono (by omega), HB.out⟩)
    have HCA := Lib.hid (show (syncS S).Calm from HWN.out.calm)
    have hmm := @run_makeMap Try.prog
    obtain ⟨bm, hbm⟩ : ∃ bm, bm = w5.heap.size := ⟨_, rfl⟩
    have HBM := Lib.hid (show w0.heap.size ≤ bm by rw [hbm]; exact HB.out.size)
    have hbw := below_one' w5 (.map #[] 0)
    have HJ := Lib.hid (HJ.out.on hbw)
    have HWI := Lib.hid (HWI.out.on hbw)
    have HMO := Lib.hid (show MapOwn (w5.alloc (.map #[] 0)) bm 0 (.map []) by rw [hbm]; exact World.ownsMap_made _ _ _ _)
    have HMC := Lib.hid mapC_zero
    clear hbw
    go_wp2
    rw [← hbm]
    generalize World.alloc w5 _ = w6 at *
    clear hmm hbm
    go_loopw [44] (fun y wr => ∃ (k : Nat) (D : CD), k ≤ m2 ∧ y = .int .i64 (k : Nat) ∧ Hid (WJ w0 wr b g nn (syncS S) os2 k) ∧ Hid (TU wr (.slice ai ll ll) (syncS S).image) ∧ Hid (MapOwn wr bm k D) ∧ Hid (MapC D k ((os2.take k).foldl wrO (syncS S)).wait)) (fun y _ => m2 - (intOf y).toNat)
    case atStart => exact ⟨0, _, Nat.zero_le _, rfl, HJ.out, HWI.out, HMO.out, HMC.out⟩
    case round =>
      obtain ⟨k, D, hk, rfl, HJ, HWI, HMO, HMC⟩ := hrel
      by_cases hlt : k < m2
      · obtain ⟨gk, ok, op, ab, ap, nb, cb, np, cp, ha, hop, hr, htb, htp, hin, hnl⟩ := HK.out.at_ hlt HW.out
        subst ha
        have HR := Lib.hid (range_on hr HJ.out.bl)
        have HOP := Lib.hid hop
        have HTB := Lib.hid htb
        have HTP := Lib.hid htp
        have HIN := Lib.hid hin
        have HNL := Lib.hid hnl
        have HLT := Lib.hid (show k < os2.length by have := HN.out; omega)
        clear hr hop htb htp hin hnl
        have HZ := Lib.hid (kz_kop op ab ap nb cb np cp)
        by_cases ha : op.act = 1
        · have ha1 : (op.act == 1) = true := by simp [ha]
          have HA := Lib.hid ha
          clear ha
          go_wp2_with (first | (refine wpList_load_mid rfl 33 (.tmp 46) rfl gk (ok + k * 6) rfl (kcells op ab ap nb cb np cp) _ HR.out Try.underlying33 rfl size_kop ?_) | (refine wpList_store_abs rfl 33 (.tmp 13) (.tmp 47) rfl wr.heap.size (kcells op ab ap nb cb np cp).toArray (by rfl) (by rfl) 33 _ (Blk.new wr _ _) HZ.out (by rfl) (kcells_one _ _ _ _ _ _ _) ?_; intro W hW p5; have hbw := hW.below ((Below.refl _ wr).alloc (Nat.le_refl _) _) (Nat.le_refl _); have HJ := Lib.hid (HJ.out.on hbw); have HWI := Lib.hid (HWI.out.on hbw); have HMO := Lib.hid (HMO.out.on hbw); have HP5 := Lib.hid p5; clear hW p5 hbw) | (refine wpList_load_sub rfl 33 (.tmp 13) rfl wr.heap.size 0 rfl HP5.out (kcells op ab ap nb cb np cp) (fun j _ => by simp) _ Try.underlying33 rfl size_kop ?_))
          generalize wr.heap.size = bx at *
          have HS := HP5
          refine wp_region_held_drew (S := fun W => Blk W bx (kcells op ab ap nb cb np cp).toArray 33) (by kernel_rfl) HS.out (fun _ => ?_)
          have hb : Below W.heap.size W (World.drew W) := (Below.refl _ _).drew
          have HS := Lib.hid (HS.out.on hb)
          have HJ := Lib.hid (HJ.out.on hb)
          have HWI := Lib.hid (HWI.out.on hb)
          have HMO := Lib.hid (HMO.out.on hb)
          clear hb
          generalize World.drew W = v0 at *
          try simp only [Act.put, List.setIfInBounds_toArray, List.set_cons_succ, List.set_cons_zero]
          refine wpAnyH_take (i := 0) (oi := ⟨some 48, .fieldAddr 33 (.tmp 13) 0, _, _, _, none⟩) (v := .pointer (some ⟨bx, 0, none⟩)) rfl (by kernel_rfl) (by kernel_rfl) (by kernel_rfl) (fun _ _ _ h => h) (Or.inl ⟨by rfl, fun _ _ => by go_simp⟩) HS.out ?_
          try simp only [Act.put, List.setIfInBounds_toArray, List.set_cons_succ, List.set_cons_zero]
          refine wpAnyH_take (i := 1) (oi := ⟨some 49, .load 3 (.tmp 48), 3, _, _, none⟩) (v := .int .i64 op.act) rfl (by kernel_rfl) (by kernel_rfl) (by kernel_rfl) (fun _ _ _ h => h) (Or.inl ⟨by rfl, fun vv hvv => by have q := hvv.cell 0 (kcell0 _ _ _ _ _ _ _); clear hvv; unfold execOp; go_simp⟩) HS.out ?_
          try simp only [Act.put, List.setIfInBounds_toArray, List.set_cons_succ, List.set_cons_zero]
          refine wpAnyH_take (i := 2) (oi := ⟨some 50, .binOp .eql 3 (.tmp 49) (.const (.int .i64 1)) 3, _, _, _, none⟩) (v := .bool true) rfl (by kernel_rfl) (by kernel_rfl) (by kernel_rfl) (fun _ _ _ h => h) (Or.inl ⟨by rfl, fun _ _ => by go_simp⟩) HS.out ?_
          try simp only [Act.put, List.setIfInBounds_toArray, List.set_cons_succ, List.set_cons_zero]
          refine wpAnyH_take (i := 3) (oi := ⟨some 51, .move (.tmp 50), _, _, _, none⟩) (v := .bool true) rfl (by kernel_rfl) (by kernel_rfl) (by kernel_rfl) (fun _ _ _ h => h) (Or.inl ⟨by rfl, fun _ _ => by go_simp⟩) HS.out ?_
          try simp only [Act.put, List.setIfInBounds_toArray, List.set_cons_succ, List.set_cons_zero]
          refine wpAnyH_take (i := 4) (oi := ⟨some 52, .move (.tmp 9), _, _, _, some (3, true)⟩) (v := .pointer (some ⟨b, 0, none⟩)) rfl (by kernel_rfl) (by kernel_rfl) (by kernel_rfl) (fun _ _ _ h => h) (Or.inl ⟨by rfl, fun _ _ => by go_simp⟩) HS.out ?_
          try simp only [Act.put, List.setIfInBounds_toArray, List.set_cons_succ, List.set_cons_zero]
          refine wpAnyH_take (i := 5) (oi := ⟨some 53, .fieldAddr 33 (.tmp 13) 1, _, _, _, some (3, true)⟩) (v := .pointer (some ⟨bx, 1, none⟩)) rfl (by kernel_rfl) (by kernel_rfl) (by kernel_rfl) (fun _ _ _ h => h) (Or.inl ⟨by rfl, fun _ _ => by go_simp⟩) HS.out ?_
          try simp only [Act.put, List.setIfInBounds_toArray, List.set_cons_succ, List.set_cons_zero]
          refine wpAnyH_take (i := 6) (oi := ⟨some 54, .load 3 (.tmp 53), 3, _, _, some (3, true)⟩) (v := .int .i64 op.i) rfl (by kernel_rfl) (by kernel_rfl) (by kernel_rfl) (fun _ _ _ h => h) (Or.inl ⟨by rfl, fun vv hvv => by have q := hvv.cell 1 (kcell1 _ _ _ _ _ _ _); clear hvv; unfold execOp; go_simp⟩) HS.out ?_
          try simp only [Act.put, List.setIfInBounds_toArray, List.set_cons_succ, List.set_cons_zero]
          refine wpAnyH_take (i := 7) (oi := ⟨some 55, .fieldAddr 33 (.tmp 13) 3, _, _, _, some (3, true)⟩) (v := .pointer (some ⟨bx, 3, none⟩)) rfl (by kernel_rfl) (by kernel_rfl) (by kernel_rfl) (fun _ _ _ h => h) (Or.inl ⟨by rfl, fun _ _ => by go_simp⟩) HS.out ?_
          try simp only [Act.put, List.setIfInBounds_toArray, List.set_cons_succ, List.set_cons_zero]
          refine wpAnyH_take (i := 8) (oi := ⟨some 56, .load 5 (.tmp 55), 5, _, _, some (3, true)⟩) (v := .int .u8 op.x.toNat) rfl (by kernel_rfl) (by kernel_rfl) (by kernel_rfl) (fun _ _ _ h => h) (Or.inl ⟨by rfl, fun vv hvv => by have q := hvv.cell 3 (kcell3 _ _ _ _ _ _ _); clear hvv; unfold execOp; go_simp⟩) HS.out ?_
          try simp only [Act.put, List.setIfInBounds_toArray, List.set_cons_succ, List.set_cons_zero]
          refine wpAnyH_ready (rs := [9]) (by kernel_rfl) (by simp) ?_
          refine AllReadyH.cons (o := ⟨some 57, .call { callee := .value (.func 16), args := #[.tmp 56], argTypes := #[5] }, 30, _, _, some (3, true)⟩) rfl (fun K hK => ?_) AllReadyH.nil
          go_simp
          refine (block_walk op.x v0).mono ?_
          rintro e v1 ⟨g1, rfl, hB, hge, hb⟩
          have HS := Lib.hid (HS.out.on hb)
          have HJ := Lib.hid (HJ.out.on hb)
          have HWI := Lib.hid (HWI.out.on hb)
          have HMO := Lib.hid (HMO.out.on hb)
          have HB1 := Lib.hid (hB)
          clear hb hB hge
          refine hK _ _ HS.out (fun _ => ?_)
          clear hK K
          try simp only [Act.put, List.setIfInBounds_toArray, List.set_cons_succ, List.set_cons_zero]
          refine wpAnyH_ready (rs := [10]) (by kernel_rfl) (by simp) ?_
          refine AllReadyH.cons (o := ⟨some 58, .call { callee := .value (.func 15), args := #[.tmp 52, .tmp 54, .tmp 57], argTypes := #[24, 3, 30] }, 28, _, _, some (3, true)⟩) rfl (fun K hK => ?_) AllReadyH.nil
          go_simp
          refine (HJ.out.writeR HLT.out HL.out HOP.out HA.out (blk_txt HB1.out)).mono ?_
          rintro e v2 ⟨rfl, hJ, v6, hD, hO⟩
          obtain ⟨rr, hrr⟩ : ∃ rr, rr = (((os2.take k).foldl wrO (syncS S)).write op.i (blockL op.x)).1 := ⟨_, rfl⟩
          rw [← hrr]
          have HRR := Lib.hid hrr
          have HS := Lib.hid (hO.blk HS.out (hD.foot_ty HS.out (by decide)))
          have HWI := Lib.hid (HWI.out.keepD hD hO)
          have HMO := Lib.hid (HMO.out.only hO (HMO.out.not_foot hD))
          have HJ := Lib.hid hJ
          clear hJ hD hO HB1 hrr
          refine hK _ _ HS.out (fun _ => ?_)
          clear hK K
          try simp only [Act.put, List.setIfInBounds_toArray, List.set_cons_succ, List.set_cons_zero]
          refine wpAnyH_take (i := 11) (oi := ⟨some 59, .binOp .eql 28 (.tmp 58) (.const (.int .i64 0)) 28, _, _, _, some (3, true)⟩) (v := .bool (rr == 0)) rfl (by kernel_rfl) (by kernel_rfl) (by kernel_rfl) (fun _ _ _ h => h) (Or.inl ⟨by rfl, fun _ _ => by go_simp⟩) HS.out ?_
          try simp only [Act.put, List.setIfInBounds_toArray, List.set_cons_succ, List.set_cons_zero]
          refine wpAnyH_take (i := 12) (oi := ⟨some 60, .pick (.tmp 51) (.tmp 59) (.const (.bool false)), _, _, _, none⟩) (v := .bool (rr == 0)) rfl (by kernel_rfl) (by kernel_rfl) (by kernel_rfl) (fun _ _ _ h => h) (Or.inl ⟨by rfl, fun _ _ => by go_simp⟩) HS.out ?_
          try simp only [Act.put, List.setIfInBounds_toArray, List.set_cons_succ, List.set_cons_zero]
          refine wpAnyH_done (by kernel_rfl) ?_ _
          rcases wait_round HCA.out HLT.out HOP.out HA.out with ⟨k1, k2, k3⟩ | ⟨k1, k2⟩
          · obtain rfl : rr = 0 := by rw [HRR.out]; exact k1
            have HWT := Lib.hid k2
            have HI0 := Lib.hid k3
            have HWF := Lib.hid (show (Lit.int .i64 op.i).wf = true from WalkArith.wf_i64 (by have := HIN.out.1; omega))
            have b1 := HS.out.cell 1 (kcell1 _ _ _ _ _ _ _)
            have hbm := HBM.out
            have hk200 : k ≤ 200 := by have := HLT.out; have := HL.out; omega
            clear k1 k2 k3
            go_wp2_with (first | (at_lookup; refine wpList_lookup_own_int _ rfl _ _ 40 rfl 3 3 .i64 lawI Try.underlying40 Try.underlying3 (zeroI _) bm k D rfl HMO.out _ _ rfl (keyOf_int_mk Try.underlying3 HWF.out) ?_; intro cc hat hwc; have hcs := HMC.out.small _ _ hat; have hwa : wrap64 (cc + 1) = cc + 1 := (by unfold wrap64; omega); have hwb : IntKind.i64.wrap (cc + 1) = cc + 1 := (by rw [IntWalk.i64_in _ (by omega)]); have HAT := Lib.hid hat; clear hat) | (at_mapUpdate; refine wpList_mapUpdate_own _ rfl _ _ _ 40 rfl 3 3 lawI Try.underlying40 _ bm k D rfl HMO.out (by unfold maxLen; omega) _ _ _ rfl rfl (keyOf_int_mk Try.underlying3 HWF.out) _ [] (plainElem_int Try.underlying3 (show (Lit.int .i64 (cc + 1)).wf = true from WalkArith.wf_i64 (by omega))) ?_; intro wu hown1 hgrow1; have hOu := Only.grown (S := (· = bm)) hgrow1 (fun j e => (Option.some.inj e).symm); have HJ := Lib.hid (HJ.out.aside HMO.out hOu HBM.out); have HWI := Lib.hid (HWI.out.keep hOu (fun j cur hb e => HMO.out.not_blk hb e.symm)); have HMO := Lib.hid (show MapOwn wu bm (k + 1) (D.put (ik op.i) (iv (cc + 1))) from hown1); clear hown1 hgrow1 hOu))
            go_roundw
            case rel => exact ⟨k + 1, _, by have := HLT.out; have := HN.out; omega, by go_num, HJ.out, HWI.out, HMO.out, by rw [HWT.out]; exact HMC.out.put HI0.out HAT.out _⟩
            case measure => have := HLT.out; have := HN.out; simp [intOf]; omega
          · obtain rfl : rr = 1 := by rw [HRR.out]; exact k1
            have HWT := Lib.hid k2
            clear k1 k2
            go_wp2
            go_roundw
            case rel => exact ⟨k + 1, D, by have := HLT.out; have := HN.out; omega, by go_num, HJ.out, HWI.out, HMO.out.more, by rw [HWT.out]; exact HMC.out.mono (by omega)⟩
            case measure => have := HLT.out; have := HN.out; simp [intOf]; omega
        · have ha1 : (op.act == 1) = false := by simp [ha]
          have HA := Lib.hid ha
          clear ha
          go_wp2_with (first | (refine wpList_load_mid rfl 33 (.tmp 46) rfl gk (ok + k * 6) rfl (kcells op ab ap nb cb np cp) _ HR.out Try.underlying33 rfl size_kop ?_) | (refine wpList_store_abs rfl 33 (.tmp 13) (.tmp 47) rfl wr.heap.size (kcells op ab ap nb cb np cp).toArray (by rfl) (by rfl) 33 _ (Blk.new wr _ _) HZ.out (by rfl) (kcells_one _ _ _ _ _ _ _) ?_; intro W hW p5; have hbw := hW.below ((Below.refl _ wr).alloc (Nat.le_refl _) _) (Nat.le_refl _); have HJ := Lib.hid (HJ.out.on hbw); have HWI := Lib.hid (HWI.out.on hbw); have HMO := Lib.hid (HMO.out.on hbw); have HP5 := Lib.hid p5; clear hW p5 hbw) | (refine wpList_load_sub rfl 33 (.tmp 13) rfl wr.heap.size 0 rfl HP5.out (kcells op ab ap nb cb np cp) (fun j _ => by simp) _ Try.underlying33 rfl size_kop ?_))
          generalize wr.heap.size = bx at *
          have HS := HP5
          refine wp_region_held_drew (S := fun W => Blk W bx (kcells op ab ap nb cb np cp).toArray 33) (by kernel_rfl) HS.out (fun _ => ?_)
          have hb : Below W.heap.size W (World.drew W) := (Below.refl _ _).drew
          have HS := Lib.hid (HS.out.on hb)
          have HJ := Lib.hid (HJ.out.on hb)
          have HWI := Lib.hid (HWI.out.on hb)
          have HMO := Lib.hid (HMO.out.on hb)
          clear hb
          generalize World.drew W = v0 at *
          try simp only [Act.put, List.setIfInBounds_toArray, List.set_cons_succ, List.set_cons_zero]
          refine wpAnyH_take (i := 0) (oi := ⟨some 48, .fieldAddr 33 (.tmp 13) 0, _, _, _, none⟩) (v := .pointer (some ⟨bx, 0, none⟩)) rfl (by kernel_rfl) (by kernel_rfl) (by kernel_rfl) (fun _ _ _ h => h) (Or.inl ⟨by rfl, fun _ _ => by go_simp⟩) HS.out ?_
          try simp only [Act.put, List.setIfInBounds_toArray, List.set_cons_succ, List.set_cons_zero]
          refine wpAnyH_take (i := 1) (oi := ⟨some 49, .load 3 (.tmp 48), 3, _, _, none⟩) (v := .int .i64 op.act) rfl (by kernel_rfl) (by kernel_rfl) (by kernel_rfl) (fun _ _ _ h => h) (Or.inl ⟨by rfl, fun vv hvv => by have q := hvv.cell 0 (kcell0 _ _ _ _ _ _ _); clear hvv; unfold execOp; go_simp⟩) HS.out ?_
          try simp only [Act.put, List.setIfInBounds_toArray, List.set_cons_succ, List.set_cons_zero]
          refine wpAnyH_take (i := 2) (oi := ⟨some 50, .binOp .eql 3 (.tmp 49) (.const (.int .i64 1)) 3, _, _, _, none⟩) (v := .bool false) rfl (by kernel_rfl) (by kernel_rfl) (by kernel_rfl) (fun _ _ _ h => h) (Or.inl ⟨by rfl, fun _ _ => by go_simp⟩) HS.out ?_
          try simp only [Act.put, List.setIfInBounds_toArray, List.set_cons_succ, List.set_cons_zero]
          refine wpAnyH_take (i := 3) (oi := ⟨some 51, .move (.tmp 50), _, _, _, none⟩) (v := .bool false) rfl (by kernel_rfl) (by kernel_rfl) (by kernel_rfl) (fun _ _ _ h => h) (Or.inl ⟨by rfl, fun _ _ => by go_simp⟩) HS.out ?_
          try simp only [Act.put, List.setIfInBounds_toArray, List.set_cons_succ, List.set_cons_zero]
          refine wpAnyH_take (i := 4) (oi := ⟨some 52, .move (.tmp 9), _, _, _, some (3, true)⟩) (v := undef) rfl (by kernel_rfl) (by kernel_rfl) (by kernel_rfl) (fun _ _ _ h => h) (Or.inr ⟨by rfl, rfl⟩) HS.out ?_
          try simp only [Act.put, List.setIfInBounds_toArray, List.set_cons_succ, List.set_cons_zero]
          refine wpAnyH_take (i := 5) (oi := ⟨some 53, .fieldAddr 33 (.tmp 13) 1, _, _, _, some (3, true)⟩) (v := undef) rfl (by kernel_rfl) (by kernel_rfl) (by kernel_rfl) (fun _ _ _ h => h) (Or.inr ⟨by rfl, rfl⟩) HS.out ?_
          try simp only [Act.put, List.setIfInBounds_toArray, List.set_cons_succ, List.set_cons_zero]
          refine wpAnyH_take (i := 6) (oi := ⟨some 54, .load 3 (.tmp 53), 3, _, _, some (3, true)⟩) (v := undef) rfl (by kernel_rfl) (by kernel_rfl) (by kernel_rfl) (fun _ _ _ h => h) (Or.inr ⟨by rfl, rfl⟩) HS.out ?_
          try simp only [Act.put, List.setIfInBounds_toArray, List.set_cons_succ, List.set_cons_zero]
          refine wpAnyH_take (i := 7) (oi := ⟨some 55, .fieldAddr 33 (.tmp 13) 3, _, _, _, some (3, true)⟩) (v := undef) rfl (by kernel_rfl) (by kernel_rfl) (by kernel_rfl) (fun _ _ _ h => h) (Or.inr ⟨by rfl, rfl⟩) HS.out ?_
          try simp only [Act.put, List.setIfInBounds_toArray, List.set_cons_succ, List.set_cons_zero]
          refine wpAnyH_take (i := 8) (oi := ⟨some 56, .load 5 (.tmp 55), 5, _, _, some (3, true)⟩) (v := undef) rfl (by kernel_rfl) (by kernel_rfl) (by kernel_rfl) (fun _ _ _ h => h) (Or.inr ⟨by rfl, rfl⟩) HS.out ?_
          try simp only [Act.put, List.setIfInBounds_toArray, List.set_cons_succ, List.set_cons_zero]
          refine wpAnyH_take (i := 9) (oi := ⟨some 57, .call { callee := .value (.func 16), args := #[.tmp 56], argTypes := #[5] }, 30, _, _, some (3, true)⟩) (v := undef) rfl (by kernel_rfl) (by kernel_rfl) (by kernel_rfl) (fun _ _ _ h => h) (Or.inr ⟨by rfl, rfl⟩) HS.out ?_
          try simp only [Act.put, List.setIfInBounds_toArray, List.set_cons_succ, List.set_cons_zero]
          refine wpAnyH_take (i := 10) (oi := ⟨some 58, .call { callee := .value (.func 15), args := #[.tmp 52, .tmp 54, .tmp 57], argTypes := #[24, 3, 30] }, 28, _, _, some (3, true)⟩) (v := undef) rfl (by kernel_rfl) (by kernel_rfl) (by kernel_rfl) (fun _ _ _ h => h) (Or.inr ⟨by rfl, rfl⟩) HS.out ?_
          try simp only [Act.put, List.setIfInBounds_toArray, List.set_cons_succ, List.set_cons_zero]
          refine wpAnyH_take (i := 11) (oi := ⟨some 59, .binOp .eql 28 (.tmp 58) (.const (.int .i64 0)) 28, _, _, _, some (3, true)⟩) (v := undef) rfl (by kernel_rfl) (by kernel_rfl) (by kernel_rfl) (fun _ _ _ h => h) (Or.inr ⟨by rfl, rfl⟩) HS.out ?_
          try simp only [Act.put, List.setIfInBounds_toArray, List.set_cons_succ, List.set_cons_zero]
          refine wpAnyH_take (i := 12) (oi := ⟨some 60, .pick (.tmp 51) (.tmp 59) (.const (.bool false)), _, _, _, none⟩) (v := .bool false) rfl (by kernel_rfl) (by kernel_rfl) (by kernel_rfl) (fun _ _ _ h => h) (Or.inl ⟨by rfl, fun _ _ => by go_simp⟩) HS.out ?_
          try simp only [Act.put, List.setIfInBounds_toArray, List.set_cons_succ, List.set_cons_zero]
          refine wpAnyH_done (by kernel_rfl) ?_ _
          have HJ := Lib.hid (HJ.out.skip HLT.out HOP.out HA.out)
          have HWT := Lib.hid (wait_skip (S0 := syncS S) HLT.out HOP.out HA.out)
          go_wp2
          go_roundw
          case rel => exact ⟨k + 1, D, by have := HLT.out; have := HN.out; omega, by go_num, HJ.out, HWI.out, HMO.out.more, by rw [HWT.out]; exact HMC.out.mono (by omega)⟩
          case measure => have := HLT.out; have := HN.out; simp [intOf]; omega
      · have HE := Lib.hid (show os2.take k = os2 from List.take_of_length_le (by have := HN.out; omega))
        obtain ⟨vd, h1, h2, h3, h4⟩ := HJ.out
        rw [HE.out] at h1 h3
        obtain ⟨T, hT⟩ : ∃ T, T = os2.foldl wrO (syncS S) := ⟨_, rfl⟩
        rw [← hT] at h1 h3
        have HTT := Lib.hid hT
        have HMC := Lib.hid (show MapC D k T.wait by rw [hT, ← HE.out]; exact HMC.out)
        have HD := Lib.hid h1
        have HFD := Lib.hid h2
        have HTL := Lib.hid (show T.wait.length ≤ 1000 ∧ T.ops ≤ 1000 from by have := h3.1; have := h3.2; have := HN.out; have := HL.out; omega)
        have HB := Lib.hid h4
        have HPB := Lib.hid (HPQ.out.on h4)
        clear h1 h2 h3 h4 hT HJ
        go_wp2_with fail
        refine (dcrash_at pq nq cq pk HPB.out.len _ HD.out (by have := HTL.out.1; omega) HPB.out.rd).mono ?_
        rintro e w6 ⟨⟨u6, rfl⟩, v6, hD, hO, hv⟩
        have HWI := Lib.hid (HWI.out.keepD HD.out hO)
        have HMO := Lib.hid (HMO.out.only hO (HMO.out.not_foot HD.out))
        have HB := Lib.hid (HB.out.trans (hO.below HFD.out HB.out.size))
        have HD := Lib.hid hD
        clear hD hO hv HPB
        go_wp2_with fail
        refine (dimage_at _ HD.out).mono ?_
        rintro e w7 ⟨an, mn, rfl, hOn, hb⟩
        obtain rfl : ll = mn := by
          have e1 := hOn.len
          unfold DS.image at e1
          rw [flat_size HD.out.ok.sec, HD.out.ok.len] at e1
          have := HLL.out
          omega
        have HNT := Lib.hid (TxB.mk hOn.txt)
        have HWI := Lib.hid (HWI.out.on hb)
        have HMO := Lib.hid (HMO.out.on hb)
        have HD := Lib.hid (HD.out.on hb)
        have HB := Lib.hid (HB.out.trans (hb.mono HB.out.size))
        clear hOn hb
        obtain ⟨ai', mi', ci', ewi, hwi, _⟩ := HWI.out
        cases ewi
        have HWT := Lib.hid (TxB.mk hwi)
        clear hwi HWI
        have HNT := Lib.hid (show TxB w7 an ll ll (T.crash pk).good.flatten from HNT.out)
        have HWT := Lib.hid (show TxB w7 ai ll ll (syncS S).good.flatten from HWT.out)
        have HOK := Lib.hid HD.out.ok
        have q0 : ((ll : Int) == (ll : Int)) = true := by simp
        have hnn64 : nn ≤ 64 := HNN.out.2
        have hlln := HLL.out
        have hwl : wrap64 (256 * (nn : Int)) = (ll : Int) := by unfold wrap64; omega
        have hwl2 : IntKind.i64.wrap (256 * (nn : Int)) = (ll : Int) := by rw [IntWalk.i64_in _ (by omega)]; omega
        clear hlln
        go_wp2_with fail
        refine (dsec_at _ HD.out).mono ?_
        rintro e w8 ⟨rfl, rfl⟩
        go_wp2_with fail
        refine (dsec_at _ HD.out).mono ?_
        rintro e w8 ⟨rfl, rfl⟩
        go_wp2
        clear hwl hwl2
        go_loopw [87] (fun y wr => ∃ i : Nat, i ≤ nn ∧ y = .int .i64 (i : Nat) ∧ Hid (TxB wr an ll ll (T.crash pk).good.flatten) ∧ Hid (TxB wr ai ll ll (syncS S).good.flatten) ∧ Hid (MapOwn wr bm k D) ∧ Hid (DiskAt wr b g nn v6 (T.crash pk)) ∧ Hid (Below w0.heap.size w0 wr)) (fun y _ => nn - (intOf y).toNat)
        case atStart => exact ⟨0, Nat.zero_le _, rfl, HNT.out, HWT.out, HMO.out, HD.out, HB.out⟩
        case round =>
          obtain ⟨i, hi, rfl, HNT, HWT, HMO, HD, HB⟩ := hrel
          by_cases hin : i < nn
          · have HII := Lib.hid hin
            have hnn := HNN.out.2
            obtain ⟨lo, hlo⟩ : ∃ lo, lo = 256 * i := ⟨_, rfl⟩
            obtain ⟨hi2, hhi⟩ : ∃ hi2, hi2 = lo + 256 := ⟨_, rfl⟩
            have hw1 : wrap64 (256 * (i : Int)) = (lo : Int) := by unfold wrap64; omega
            have hw2 : IntKind.i64.wrap (256 * (i : Int)) = (lo : Int) := by rw [IntWalk.i64_in _ (by omega)]; omega
            have hw3 : wrap64 ((lo : Int) + 256) = (hi2 : Int) := by unfold wrap64; omega
            have hw4 : IntKind.i64.wrap ((lo : Int) + 256) = (hi2 : Int) := by rw [IntWalk.i64_in _ (by omega)]; omega
            obtain ⟨A1, C1, hs1, ht1⟩ := sec_piece HNT.out.t HOK.out.sec (i := i) (by rw [HOK.out.len]; exact hin) hlo hhi (by rw [HOK.out.len]; exact HLL.out)
            obtain ⟨A2, C2, hs2, ht2⟩ := sec_piece HWT.out.t HS1.out.2 (i := i) (by rw [HS1.out.1]; exact hin) hlo hhi (by rw [HS1.out.1]; exact HLL.out)
            obtain ⟨cc, hlk, hat⟩ := HMO.out.look (i : Nat) (WalkArith.wf_i64 (by omega))
            have HST := Lib.hid (TxB.mk ht1)
            have HT2 := Lib.hid (TxB.mk ht2)
            clear ht1 ht2 hlo hhi hnn
            by_cases hc0 : cc = 0
            · have HSE := Lib.hid (show (T.crash pk).good.getD i [] = (syncS S).good.getD i [] by rw [stays_law T pk HMC.out hat hc0, HTT.out, wr_good])
              subst hc0
              obtain ⟨s, hs⟩ : ∃ s, s = (T.crash pk).good.getD i [] := ⟨_, rfl⟩
              have HST := Lib.hid (show TxB wr A1 256 C1 s by rw [hs]; exact HST.out)
              have HT2 := Lib.hid (show TxB wr A2 256 C2 s by rw [hs, HSE.out]; exact HT2.out)
              have heq := fun q => equal_q A2 A1 256 256 C2 C1 s (wr.drewN q) (HT2.out.t.drewN q) (HST.out.t.drewN q)
              clear hs hat
              go_wp2
              go_quiet ((go_at_call 19; exact Calls.quiet_of_same (heq _)))
              generalize hq9 : wr.drewN nq = wq
              have hbq : Below wr.heap.size wr wq := hq9 ▸ below_drewQ wr nq
              have HNT := Lib.hid (HNT.out.on hbq)
              have HWT := Lib.hid (HWT.out.on hbq)
              have HMO := Lib.hid (HMO.out.on hbq)
              have HD := Lib.hid (HD.out.on hbq)
              have HB := Lib.hid (HB.out.trans (hbq.mono HB.out.size))
              clear hq9 hbq hlk hs1 hs2 hw1 hw2 hw3 hw4
              go_wp2
              go_roundw
              case rel => exact ⟨i + 1, by have := HII.out; omega, by go_num, HNT.out, HWT.out, HMO.out, HD.out, HB.out⟩
              case measure => have := HII.out; simp [intOf]; omega
            · have hc1 : (cc == 0) = false := by simp [hc0]
              clear hat hc0
              go_wp2
              go_quiet (fail)
              generalize hq9 : wr.drewN nq = wq
              have hbq : Below wr.heap.size wr wq := hq9 ▸ below_drewQ wr nq
              have HNT := Lib.hid (HNT.out.on hbq)
              have HWT := Lib.hid (HWT.out.on hbq)
              have HMO := Lib.hid (HMO.out.on hbq)
              have HD := Lib.hid (HD.out.on hbq)
              have HB := Lib.hid (HB.out.trans (hbq.mono HB.out.size))
              clear hq9 hbq hlk hs1 hs2 hw1 hw2 hw3 hw4
              go_wp2
              go_roundw
              case rel => exact ⟨i + 1, by have := HII.out; omega, by go_num, HNT.out, HWT.out, HMO.out, HD.out, HB.out⟩
              case measure => have := HII.out; simp [intOf]; omega
          · go_wp2_with fail
            refine (dwaits_at _ HD.out).mono ?_
            rintro e wa ⟨rfl, rfl⟩
            rw [show (T.crash pk).wait.length = 0 from rfl]
            go_wp2_with fail
            refine (don_at _ HD.out).mono ?_
            rintro e wb ⟨rfl, rfl⟩
            rw [show (!(T.crash pk).gone) = true from rfl]
            go_wp2
            go_ret
            exact ⟨rfl, HB.out⟩
end Go.Proofs.Ytgbahfggnbpnmaa
