import Derived.Test.YtgbahfggnbpnmaaLwV
import Derived.Deep.Cut
/-
  The walk of liverylaw17.DiskWhole.
-/
namespace Go.Proofs.Ytgbahfggnbpnmaa
open Go.RowKit
set_option maxRecDepth 100000 in
set_option maxHeartbeats 40000000 in
theorem diskWhole_walk (n : Int) (os os2 : List KOp) (a a2 : Option Addr) (m c m2 c2 : Nat) (w0 : World) (hK : KsIn w0 a m c os) (hK2 : KsIn w0 a2 m2 c2 os2) (pq : Option Addr) (nq cq : Nat) (pk : List Bool) (hP : BTx w0 pq nq cq pk) :
    Calls Try.prog 3 #[.int .i64 n, .slice a m c, .slice a2 m2 c2, .slice pq nq cq] w0 fun e w' => e = .returned (.bool true) ∧ Below w0.heap.size w0 w' := by
  have HPQ := Lib.hid hP
  clear hP
  have HK1 := Lib.hid hK
  have HK := Lib.hid hK2
  have HN := Lib.hid hK2.1
  have hn63 : m2 ≤ 9223372036854775807 := by have h1 := hK2.2.1; have h2 := hK2.2.2.1; unfold maxLen at h2; omega
  clear hK hK2
  go_enter Try.func3, Try.ntmps3
  go_wp2_with fail
  refine (worn_walk n os a m c _ HK1.out).mono ?_
  rintro e w1 ⟨p, rfl, hb1, hp⟩
  have HB1 := Lib.hid hb1
  have HP := Lib.hid hp
  clear hb1 hp
  go_wp2_with fail
  refine (live17_walk _).mono ?_
  rintro e w2 ⟨rfl, hb⟩
  have HB2 := Lib.hid (HB1.out.trans (hb.mono HB1.out.size))
  have HP := Lib.hid (show p = none ∨ ∃ b g nn v S, p = some ⟨b, 0, none⟩ ∧ Worn w0 w2 b g nn v S from HP.out.imp id fun ⟨b, g, nn, v, S, e, hW⟩ => ⟨b, g, nn, v, S, e, ⟨hW.d.on hb, hW.n, hW.fd, hW.calm, hW.lim⟩⟩)
  clear hb HB1
  rcases HP.out with rfl | ⟨b, g, nn, v, S, rfl, hW⟩
  · clear HP
    go_wp2_with fail
    refine (live17_walk _).mono ?_
    rintro e w3 ⟨rfl, hb⟩
    have HB3 := Lib.hid (HB2.out.trans (hb.mono HB2.out.size))
    clear hb
    go_wp2
    go_ret
    exact ⟨rfl, HB3.out⟩
  have HWN := Lib.hid hW
  clear hW HP
  go_wp2_with fail
  refine (few17_walk os2 a2 m2 c2 _ (HK.out.on HB2.out)).mono ?_
  rintro e w3 ⟨M, rfl, hM, hb⟩
  have HB3 := Lib.hid (HB2.out.trans (hb.mono HB2.out.size))
  have HD := Lib.hid (HWN.out.d.on hb)
  cases M with
  | false =>
    clear hM hb
    go_wp2_with fail
    refine (live17_walk _).mono ?_
    rintro e w4 ⟨rfl, hb⟩
    have HB4 := Lib.hid (HB3.out.trans (hb.mono HB3.out.size))
    clear hb
    go_wp2
    go_ret
    exact ⟨rfl, HB4.out⟩
  | true =>
    have HW := Lib.hid (hM rfl)
    have HL := Lib.hid (show os2.length ≤ 200 from (hM rfl).2)
    clear hM hb HB2
    by_cases hpk : 1000 < nq
    · have hpk1 : (1000 : Int) < (nq : Int) := by omega
      go_wp2_with fail
      refine (live17_walk _).mono ?_
      rintro e w4 ⟨rfl, hb⟩
      have HB4 := Lib.hid (HB3.out.trans (hb.mono HB3.out.size))
      clear hb
      go_wp2
      go_ret
      exact ⟨rfl, HB4.out⟩
    have hpk1 : ¬ (1000 : Int) < (nq : Int) := by omega
    go_wp2_with fail
    refine (dsync_at _ HD.out (by have := HWN.out.lim.2; omega) (by have := HWN.out.lim.1; omega)).mono ?_
    rintro e w4 ⟨rfl, v4, hD, hO, hv⟩
    rw [sync_eq HWN.out.calm] at hD ⊢
    have HFD := Lib.hid (foot_new HWN.out.fd HB3.out.size (fun k e => .inl (hv k e)))
    have HB := Lib.hid (HB3.out.trans (hO.below HWN.out.fd HB3.out.size))
    have HD := Lib.hid (show DiskAt w4 b g nn v4 (syncS S) from hD)
    have HS1 := Lib.hid (show (syncS S).good.length = nn ∧ ∀ s, s ∈ (syncS S).good → s.length = 256 from ⟨hD.ok.len, hD.ok.sec⟩)
    have HNN := Lib.hid HWN.out.n
    clear hD hO hv HB3
    go_wp2_with fail
    refine (dimage_at _ HD.out).mono ?_
    rintro e w5 ⟨ai, mi, rfl, hOi, hb⟩
    obtain ⟨ll, hll⟩ : ∃ ll, ll = 256 * nn := ⟨_, rfl⟩
    have HLL := Lib.hid hll
    obtain rfl : ll = mi := by
      have e1 := hOi.len
      unfold DS.image at e1
      rw [flat_size HS1.out.2, HS1.out.1] at e1
      omega
    have HWI := Lib.hid hOi.tu
    have HD := Lib.hid (HD.out.on hb)
    have HB := Lib.hid (HB.out.trans (hb.mono HB.out.size))
    clear hOi hb hll
    have HJ := Lib.hid (show WJ w0 w5 b g nn (syncS S) os2 0 from ⟨v4, HD.out, HFD.out, (syncS_lim HWN.out.lim).mono (by omega), HB.out⟩)
    go_wp2
    go_loopw [46] (fun y wr => ∃ k : Nat, k ≤ m2 ∧ y = .int .i64 (k : Nat) ∧ Hid (WJ w0 wr b g nn (syncS S) os2 k) ∧ Hid (TU wr (.slice ai ll ll) (syncS S).image)) (fun y _ => m2 - (intOf y).toNat)
    case atStart => exact ⟨0, Nat.zero_le _, rfl, HJ.out, HWI.out⟩
    case round =>
      obtain ⟨k, hk, rfl, HJ, HWI⟩ := hrel
      by_cases hlt : k < m2
      · obtain ⟨gk, ok, op, ab, ap, nb, cb, np, cp, ha, hop, hr, htb, htp, hin, hnl⟩ := HK.out.at_ hlt HW.out
        subst ha
        have HR := Lib.hid (range_on hr HJ.out.bl)
        have HOP := Lib.hid hop
        have HTB := Lib.hid htb
        have HTP := Lib.hid htp
        have HIN := Lib.hid hin
        have HNL := Lib.hid hnl
        have HLT := Lib.hid (show k < os2.length by have := HN.out; omega)
        clear hr hop htb htp hin hnl
        have HZ := Lib.hid (kz_kop op ab ap nb cb np cp)
        by_cases ha : op.act = 1
        · have ha1 : (op.act == 1) = true := by simp [ha]
          have HA := Lib.hid ha
          clear ha
          go_wp2_with (first | (refine wpList_load_mid rfl 33 (.tmp 48) rfl gk (ok + k * 6) rfl (kcells op ab ap nb cb np cp) _ HR.out Try.underlying33 rfl size_kop ?_) | (refine wpList_store_abs rfl 33 (.tmp 12) (.tmp 49) rfl wr.heap.size (kcells op ab ap nb cb np cp).toArray (by rfl) (by rfl) 33 _ (Blk.new wr _ _) HZ.out (by rfl) (kcells_one _ _ _ _ _ _ _) ?_; intro W hW p5; have hbw := hW.below ((Below.refl _ wr).alloc (Nat.le_refl _) _) (Nat.le_refl _); have HJ := Lib.hid (HJ.out.on hbw); have HWI := Lib.hid (HWI.out.on hbw); have HP5 := Lib.hid p5; have b0 := p5.cell 0 (kcell0 _ _ _ _ _ _ _); clear hW p5 hbw) | (refine wpList_load_sub rfl 33 (.tmp 12) rfl wr.heap.size 0 rfl HP5.out (kcells op ab ap nb cb np cp) (fun j _ => by simp) _ Try.underlying33 rfl size_kop ?_))
          clear b0
          generalize wr.heap.size = bx at *
          have HS := HP5
          refine wp_region_held_drew (S := fun W => Blk W bx (kcells op ab ap nb cb np cp).toArray 33) (by kernel_rfl) HS.out (fun _ => ?_)
          have hb : Below W.heap.size W (World.drew W) := (Below.refl _ _).drew
          have HS := Lib.hid (HS.out.on hb)
          have HJ := Lib.hid (HJ.out.on hb)
          have HWI := Lib.hid (HWI.out.on hb)
          clear hb
          generalize World.drew W = v0 at *
          try simp only [Act.put, List.setIfInBounds_toArray, List.set_cons_succ, List.set_cons_zero]
          refine wpAnyH_take (i := 0) (oi := ⟨some 53, .move (.tmp 9), _, _, _, none⟩) (v := .pointer (some ⟨b, 0, none⟩)) rfl (by kernel_rfl) (by kernel_rfl) (by kernel_rfl) (fun _ _ _ h => h) (Or.inl ⟨by rfl, fun _ _ => by go_simp⟩) HS.out ?_
          try simp only [Act.put, List.setIfInBounds_toArray, List.set_cons_succ, List.set_cons_zero]
          refine wpAnyH_take (i := 1) (oi := ⟨some 54, .fieldAddr 33 (.tmp 12) 1, _, _, _, none⟩) (v := .pointer (some ⟨bx, 1, none⟩)) rfl (by kernel_rfl) (by kernel_rfl) (by kernel_rfl) (fun _ _ _ h => h) (Or.inl ⟨by rfl, fun _ _ => by go_simp⟩) HS.out ?_
          try simp only [Act.put, List.setIfInBounds_toArray, List.set_cons_succ, List.set_cons_zero]
          refine wpAnyH_take (i := 2) (oi := ⟨some 55, .load 3 (.tmp 54), 3, _, _, none⟩) (v := .int .i64 op.i) rfl (by kernel_rfl) (by kernel_rfl) (by kernel_rfl) (fun _ _ _ h => h) (Or.inl ⟨by rfl, fun vv hvv => by have q := hvv.cell 1 (kcell1 _ _ _ _ _ _ _); clear hvv; unfold execOp; go_simp⟩) HS.out ?_
          try simp only [Act.put, List.setIfInBounds_toArray, List.set_cons_succ, List.set_cons_zero]
          refine wpAnyH_take (i := 3) (oi := ⟨some 56, .fieldAddr 33 (.tmp 12) 3, _, _, _, none⟩) (v := .pointer (some ⟨bx, 3, none⟩)) rfl (by kernel_rfl) (by kernel_rfl) (by kernel_rfl) (fun _ _ _ h => h) (Or.inl ⟨by rfl, fun _ _ => by go_simp⟩) HS.out ?_
          try simp only [Act.put, List.setIfInBounds_toArray, List.set_cons_succ, List.set_cons_zero]
          refine wpAnyH_take (i := 4) (oi := ⟨some 57, .load 5 (.tmp 56), 5, _, _, none⟩) (v := .int .u8 op.x.toNat) rfl (by kernel_rfl) (by kernel_rfl) (by kernel_rfl) (fun _ _ _ h => h) (Or.inl ⟨by rfl, fun vv hvv => by have q := hvv.cell 3 (kcell3 _ _ _ _ _ _ _); clear hvv; unfold execOp; go_simp⟩) HS.out ?_
          try simp only [Act.put, List.setIfInBounds_toArray, List.set_cons_succ, List.set_cons_zero]
          refine wpAnyH_ready (rs := [5]) (by kernel_rfl) (by simp) ?_
          refine AllReadyH.cons (o := ⟨some 58, .call { callee := .value (.func 16), args := #[.tmp 57], argTypes := #[5] }, 30, _, _, none⟩) rfl (fun K hK => ?_) AllReadyH.nil
          go_simp
          refine (block_walk op.x v0).mono ?_
          rintro e v1 ⟨g1, rfl, hB, hge, hb⟩
          have HS := Lib.hid (HS.out.on hb)
          have HJ := Lib.hid (HJ.out.on hb)
          have HWI := Lib.hid (HWI.out.on hb)
          have HB1 := Lib.hid (hB)
          clear hb hB hge
          refine hK _ _ HS.out (fun _ => ?_)
          clear hK K
          try simp only [Act.put, List.setIfInBounds_toArray, List.set_cons_succ, List.set_cons_zero]
          refine wpAnyH_ready (rs := [6]) (by kernel_rfl) (by simp) ?_
          refine AllReadyH.cons (o := ⟨some 59, .call { callee := .value (.func 15), args := #[.tmp 53, .tmp 55, .tmp 58], argTypes := #[24, 3, 30] }, 28, _, _, none⟩) rfl (fun K hK => ?_) AllReadyH.nil
          go_simp
          refine (HJ.out.write HLT.out HL.out HOP.out HA.out (blk_txt HB1.out)).mono ?_
          rintro e v2 ⟨r, rfl, hJ, v6, hD, hO⟩
          have HS := Lib.hid (hO.blk HS.out (hD.foot_ty HS.out (by decide)))
          have HWI := Lib.hid (HWI.out.keepD hD hO)
          have HJ := Lib.hid hJ
          clear hJ hD hO HB1
          refine hK _ _ HS.out (fun _ => ?_)
          clear hK K
          try simp only [Act.put, List.setIfInBounds_toArray, List.set_cons_succ, List.set_cons_zero]
          refine wpAnyH_done (by kernel_rfl) ?_ _
          go_wp2
          go_roundw
          case rel => exact ⟨k + 1, by have := HLT.out; have := HN.out; omega, by go_num, HJ.out, HWI.out⟩
          case measure => have := HLT.out; have := HN.out; simp [intOf]; omega
        · have ha1 : (op.act == 1) = false := by simp [ha]
          have HA := Lib.hid ha
          clear ha
          go_wp2_with (first | (refine wpList_load_mid rfl 33 (.tmp 48) rfl gk (ok + k * 6) rfl (kcells op ab ap nb cb np cp) _ HR.out Try.underlying33 rfl size_kop ?_) | (refine wpList_store_abs rfl 33 (.tmp 12) (.tmp 49) rfl wr.heap.size (kcells op ab ap nb cb np cp).toArray (by rfl) (by rfl) 33 _ (Blk.new wr _ _) HZ.out (by rfl) (kcells_one _ _ _ _ _ _ _) ?_; intro W hW p5; have hbw := hW.below ((Below.refl _ wr).alloc (Nat.le_refl _) _) (Nat.le_refl _); have HJ := Lib.hid (HJ.out.on hbw); have HWI := Lib.hid (HWI.out.on hbw); have HP5 := Lib.hid p5; have b0 := p5.cell 0 (kcell0 _ _ _ _ _ _ _); clear hW p5 hbw) | (refine wpList_load_sub rfl 33 (.tmp 12) rfl wr.heap.size 0 rfl HP5.out (kcells op ab ap nb cb np cp) (fun j _ => by simp) _ Try.underlying33 rfl size_kop ?_))
          have HJ := Lib.hid (HJ.out.skip HLT.out HOP.out HA.out)
          go_roundw
          case rel => exact ⟨k + 1, by have := HLT.out; have := HN.out; omega, by go_num, HJ.out, HWI.out⟩
          case measure => have := HLT.out; have := HN.out; simp [intOf]; omega
      · have HE := Lib.hid (show os2.take k = os2 from List.take_of_length_le (by have := HN.out; omega))
        obtain ⟨vd, h1, h2, h3, h4⟩ := HJ.out
        rw [HE.out] at h1 h3
        obtain ⟨T, hT⟩ : ∃ T, T = os2.foldl wrO (syncS S) := ⟨_, rfl⟩
        rw [← hT] at h1 h3
        have HTT := Lib.hid hT
        have HD := Lib.hid h1
        have HFD := Lib.hid h2
        have HTL := Lib.hid (show T.wait.length ≤ 1000 ∧ T.ops ≤ 1000 from by have := h3.1; have := h3.2; have := HN.out; have := HL.out; omega)
        have HB := Lib.hid h4
        have HPB := Lib.hid (HPQ.out.on h4)
        clear h1 h2 h3 h4 hT HJ
        go_wp2_with fail
        refine (dcrash_at pq nq cq pk HPB.out.len _ HD.out (by have := HTL.out.1; omega) HPB.out.rd).mono ?_
        rintro e w6 ⟨⟨u6, rfl⟩, v6, hD, hO, hv⟩
        have HWI := Lib.hid (HWI.out.keepD HD.out hO)
        have HB := Lib.hid (HB.out.trans (hO.below HFD.out HB.out.size))
        have HD := Lib.hid hD
        clear hD hO hv HPB
        go_wp2_with fail
        refine (dimage_at _ HD.out).mono ?_
        rintro e w7 ⟨an, mn, rfl, hOn, hb⟩
        obtain rfl : ll = mn := by
          have e1 := hOn.len
          unfold DS.image at e1
          rw [flat_size HD.out.ok.sec, HD.out.ok.len] at e1
          have := HLL.out
          omega
        have HNT := Lib.hid (TxB.mk hOn.txt)
        have HWI := Lib.hid (HWI.out.on hb)
        have HD := Lib.hid (HD.out.on hb)
        have HB := Lib.hid (HB.out.trans (hb.mono HB.out.size))
        clear hOn hb
        obtain ⟨ai', mi', ci', ewi, hwi, _⟩ := HWI.out
        cases ewi
        have HWT := Lib.hid (TxB.mk hwi)
        clear hwi HWI
        have HNT := Lib.hid (show TxB w7 an ll ll (T.crash pk).good.flatten from HNT.out)
        have HWT := Lib.hid (show TxB w7 ai ll ll (syncS S).good.flatten from HWT.out)
        have HOK := Lib.hid HD.out.ok
        have q0 : ((ll : Int) == (ll : Int)) = true := by simp
        have hnn64 : nn ≤ 64 := HNN.out.2
        have hlln := HLL.out
        have hwl : wrap64 (256 * (nn : Int)) = (ll : Int) := by unfold wrap64; omega
        have hwl2 : IntKind.i64.wrap (256 * (nn : Int)) = (ll : Int) := by rw [IntWalk.i64_in _ (by omega)]; omega
        clear hlln
        go_wp2_with fail
        refine (dsec_at _ HD.out).mono ?_
        rintro e w8 ⟨rfl, rfl⟩
        go_wp2_with fail
        refine (dsec_at _ HD.out).mono ?_
        rintro e w8 ⟨rfl, rfl⟩
        go_wp2
        clear hwl hwl2
        go_loopw [81] (fun y wr => ∃ k : Nat, k ≤ nn ∧ y = .int .i64 (k : Nat) ∧ Hid (TxB wr an ll ll (T.crash pk).good.flatten) ∧ Hid (TxB wr ai ll ll (syncS S).good.flatten) ∧ Hid (Below w0.heap.size w0 wr)) (fun y _ => nn - (intOf y).toNat)
        case atStart => exact ⟨0, Nat.zero_le _, rfl, HNT.out, HWT.out, HB.out⟩
        case round =>
          obtain ⟨i, hi, rfl, HNT, HWT, HB⟩ := hrel
          obtain ⟨wo, rfl⟩ : ∃ wo : World, wo = wr := ⟨_, rfl⟩
          by_cases hin : i < nn
          · have HII := Lib.hid hin
            have hnn := HNN.out.2
            obtain ⟨lo, hlo⟩ : ∃ lo, lo = 256 * i := ⟨_, rfl⟩
            obtain ⟨hi2, hhi⟩ : ∃ hi2, hi2 = lo + 256 := ⟨_, rfl⟩
            have hw1 : wrap64 (256 * (i : Int)) = (lo : Int) := by unfold wrap64; omega
            have hw2 : IntKind.i64.wrap (256 * (i : Int)) = (lo : Int) := by rw [IntWalk.i64_in _ (by omega)]; omega
            have hw3 : wrap64 ((lo : Int) + 256) = (hi2 : Int) := by unfold wrap64; omega
            have hw4 : IntKind.i64.wrap ((lo : Int) + 256) = (hi2 : Int) := by rw [IntWalk.i64_in _ (by omega)]; omega
            obtain ⟨A1, C1, hs1, ht1⟩ := sec_piece HNT.out.t HOK.out.sec (i := i) (by rw [HOK.out.len]; exact hin) hlo hhi (by rw [HOK.out.len]; exact HLL.out)
            obtain ⟨A2, C2, hs2, ht2⟩ := sec_piece HWT.out.t HS1.out.2 (i := i) (by rw [HS1.out.1]; exact hin) hlo hhi (by rw [HS1.out.1]; exact HLL.out)
            obtain ⟨s, hs⟩ : ∃ s, s = (T.crash pk).good.getD i [] := ⟨_, rfl⟩
            obtain ⟨s0, hs0⟩ : ∃ s0, s0 = (syncS S).good.getD i [] := ⟨_, rfl⟩
            rw [← hs] at ht1
            rw [← hs0] at ht2
            have HWL := Lib.hid (show s = s0 ∨ ∃ o, o ∈ os2 ∧ o.act = 1 ∧ o.i = (i : Int) ∧ s = blockL o.x by rw [hs, hs0, HTT.out]; exact whole_law (syncS S) os2 pk rfl i)
            have HST := Lib.hid (TxB.mk ht1)
            have HT2 := Lib.hid ht2
            clear ht1 ht2 hs hs0 hlo hhi hnn
            go_wp2_with fail
            refine (equal_walk _ _ _ _ _ _ s s0 HST.out.t.len HT2.out.len _ HST.out.t.rd HT2.out.rd).mono ?_
            rintro e wa ⟨rfl, rfl⟩
            obtain ⟨qb, hqb⟩ : ∃ qb, qb = decide (s = s0) := ⟨_, rfl⟩
            rw [← hqb]
            have HQB := Lib.hid hqb
            clear hqb hs1 hs2 hw1 hw2 hw3 hw4 HT2
            go_wp2
            go_loopw [16, 102] (fun wv y wr => ∃ k : Nat, k ≤ m2 ∧ y = .int .i64 (k : Nat) ∧ wv = .bool (whB qb s i os2 k) ∧ Hid (TxB wr an ll ll (T.crash pk).good.flatten) ∧ Hid (TxB wr ai ll ll (syncS S).good.flatten) ∧ Hid (TxB wr A1 256 C1 s) ∧ Hid (Below w0.heap.size w0 wr)) (fun _ y _ => m2 - (intOf y).toNat)
            case atStart => exact ⟨0, Nat.zero_le _, rfl, by rw [whB_zero], HNT.out, HWT.out, HST.out, HB.out⟩
            case round =>
              obtain ⟨k, hk, rfl, rfl, HNT, HWT, HST, HB⟩ := hrel
              by_cases hlt : k < m2
              · obtain ⟨gk, ok, op, ab, ap, nb, cb, np, cp, ha, hop, hr, htb, htp, hin, hnl⟩ := HK.out.at_ hlt HW.out
                subst ha
                have HR := Lib.hid (range_on hr HB.out)
                have HOP := Lib.hid hop
                have HTB := Lib.hid htb
                have HTP := Lib.hid htp
                have HIN := Lib.hid hin
                have HNL := Lib.hid hnl
                have HLT := Lib.hid (show k < os2.length by have := HN.out; omega)
                clear hr hop htb htp hin hnl
                have HZ := Lib.hid (kz_kop op ab ap nb cb np cp)
                obtain ⟨bk, hbk⟩ : ∃ bk, bk = whB qb s i os2 k := ⟨_, rfl⟩
                rw [← hbk]
                have HSU := Lib.hid (show whB qb s i os2 (k + 1) = (bk || (op.act == 1 && (op.i == (i : Int) && decide (s = blockL op.x)))) by rw [whB_succ qb s i HLT.out HOP.out, hbk])
                clear hbk
                cases bk with
                | true =>
                  go_upto_region 25 with (first | (refine wpList_load_mid rfl 33 (.tmp 104) rfl gk (ok + k * 6) rfl (kcells op ab ap nb cb np cp) _ HR.out Try.underlying33 rfl size_kop ?_) | (refine wpList_store_abs rfl 33 (.tmp 18) (.tmp 105) rfl wr.heap.size (kcells op ab ap nb cb np cp).toArray (by rfl) (by rfl) 33 _ (Blk.new wr _ _) HZ.out (by rfl) (kcells_one _ _ _ _ _ _ _) ?_; intro W hW p5; have hbw := hW.below ((Below.refl _ wr).alloc (Nat.le_refl _) _) (Nat.le_refl _); have HNT := Lib.hid (HNT.out.on hbw); have HWT := Lib.hid (HWT.out.on hbw); have HST := Lib.hid (HST.out.on hbw); have HP5 := Lib.hid p5; have HB := Lib.hid (HB.out.trans (hbw.mono HB.out.size)); have b0 := p5.cell 0 (kcell0 _ _ _ _ _ _ _); have b1 := p5.cell 1 (kcell1 _ _ _ _ _ _ _); have b3 := p5.cell 3 (kcell3 _ _ _ _ _ _ _); clear hW p5 hbw) | (refine wpList_load_sub rfl 33 (.tmp 18) rfl wr.heap.size 0 rfl HP5.out (kcells op ab ap nb cb np cp) (fun j _ => by simp) _ Try.underlying33 rfl size_kop ?_))
                  go_wp2
                  go_roundw
                  case rel => exact ⟨k + 1, by have := HLT.out; have := HN.out; omega, by go_num, by rw [HSU.out]; simp, HNT.out, HWT.out, HST.out, HB.out⟩
                  case measure => have := HLT.out; have := HN.out; simp [intOf]; omega
                | false =>
                  by_cases ha : op.act = 1
                  · have ha1 : (op.act == 1) = true := by simp [ha]
                    by_cases hj : op.i = (i : Int)
                    · have hj1 : (op.i == (i : Int)) = true := by simp [hj]
                      have HSU := Lib.hid (show whB qb s i os2 (k + 1) = decide (s = blockL op.x) by rw [HSU.out, ha1, hj1]; simp)
                      clear ha hj
                      go_upto_region 25 with (first | (refine wpList_load_mid rfl 33 (.tmp 104) rfl gk (ok + k * 6) rfl (kcells op ab ap nb cb np cp) _ HR.out Try.underlying33 rfl size_kop ?_) | (refine wpList_store_abs rfl 33 (.tmp 18) (.tmp 105) rfl wr.heap.size (kcells op ab ap nb cb np cp).toArray (by rfl) (by rfl) 33 _ (Blk.new wr _ _) HZ.out (by rfl) (kcells_one _ _ _ _ _ _ _) ?_; intro W hW p5; have hbw := hW.below ((Below.refl _ wr).alloc (Nat.le_refl _) _) (Nat.le_refl _); have HNT := Lib.hid (HNT.out.on hbw); have HWT := Lib.hid (HWT.out.on hbw); have HST := Lib.hid (HST.out.on hbw); have HP5 := Lib.hid p5; have HB := Lib.hid (HB.out.trans (hbw.mono HB.out.size)); have b0 := p5.cell 0 (kcell0 _ _ _ _ _ _ _); have b1 := p5.cell 1 (kcell1 _ _ _ _ _ _ _); have b3 := p5.cell 3 (kcell3 _ _ _ _ _ _ _); clear hW p5 hbw) | (refine wpList_load_sub rfl 33 (.tmp 18) rfl wr.heap.size 0 rfl HP5.out (kcells op ab ap nb cb np cp) (fun j _ => by simp) _ Try.underlying33 rfl size_kop ?_))
                      go_wp2_with fail
                      refine (block_walk op.x _).mono ?_
                      rintro e wb ⟨g1, rfl, hBk, hge, hb⟩
                      have HBT := Lib.hid (blk_txt hBk)
                      have HNT := Lib.hid (HNT.out.on hb)
                      have HWT := Lib.hid (HWT.out.on hb)
                      have HST := Lib.hid (HST.out.on hb)
                      have HB := Lib.hid (HB.out.trans (hb.mono HB.out.size))
                      clear hBk hge hb
                      go_wp2_with fail
                      refine (equal_walk _ _ _ _ _ _ s (blockL op.x) HST.out.t.len HBT.out.len _ HST.out.t.rd HBT.out.rd).mono ?_
                      rintro e wc ⟨rfl, rfl⟩
                      obtain ⟨qx, hqx⟩ : ∃ qx, qx = decide (s = blockL op.x) := ⟨_, rfl⟩
                      rw [← hqx]
                      have HSU := Lib.hid (show whB qb s i os2 (k + 1) = qx by rw [HSU.out, hqx])
                      clear hqx
                      go_wp2
                      go_roundw
                      case rel => exact ⟨k + 1, by have := HLT.out; have := HN.out; omega, by go_num, by rw [HSU.out], HNT.out, HWT.out, HST.out, HB.out⟩
                      case measure => have := HLT.out; have := HN.out; simp [intOf]; omega
                    · have hj1 : (op.i == (i : Int)) = false := by simp [hj]
                      have HSU := Lib.hid (show whB qb s i os2 (k + 1) = false by rw [HSU.out, hj1]; simp)
                      clear ha hj
                      go_upto_region 25 with (first | (refine wpList_load_mid rfl 33 (.tmp 104) rfl gk (ok + k * 6) rfl (kcells op ab ap nb cb np cp) _ HR.out Try.underlying33 rfl size_kop ?_) | (refine wpList_store_abs rfl 33 (.tmp 18) (.tmp 105) rfl wr.heap.size (kcells op ab ap nb cb np cp).toArray (by rfl) (by rfl) 33 _ (Blk.new wr _ _) HZ.out (by rfl) (kcells_one _ _ _ _ _ _ _) ?_; intro W hW p5; have hbw := hW.below ((Below.refl _ wr).alloc (Nat.le_refl _) _) (Nat.le_refl _); have HNT := Lib.hid (HNT.out.on hbw); have HWT := Lib.hid (HWT.out.on hbw); have HST := Lib.hid (HST.out.on hbw); have HP5 := Lib.hid p5; have HB := Lib.hid (HB.out.trans (hbw.mono HB.out.size)); have b0 := p5.cell 0 (kcell0 _ _ _ _ _ _ _); have b1 := p5.cell 1 (kcell1 _ _ _ _ _ _ _); have b3 := p5.cell 3 (kcell3 _ _ _ _ _ _ _); clear hW p5 hbw) | (refine wpList_load_sub rfl 33 (.tmp 18) rfl wr.heap.size 0 rfl HP5.out (kcells op ab ap nb cb np cp) (fun j _ => by simp) _ Try.underlying33 rfl size_kop ?_))
                      go_wp2
                      go_roundw
                      case rel => exact ⟨k + 1, by have := HLT.out; have := HN.out; omega, by go_num, by rw [HSU.out], HNT.out, HWT.out, HST.out, HB.out⟩
                      case measure => have := HLT.out; have := HN.out; simp [intOf]; omega
                  · have ha1 : (op.act == 1) = false := by simp [ha]
                    have HSU := Lib.hid (show whB qb s i os2 (k + 1) = false by rw [HSU.out, ha1]; simp)
                    clear ha
                    go_upto_region 25 with (first | (refine wpList_load_mid rfl 33 (.tmp 104) rfl gk (ok + k * 6) rfl (kcells op ab ap nb cb np cp) _ HR.out Try.underlying33 rfl size_kop ?_) | (refine wpList_store_abs rfl 33 (.tmp 18) (.tmp 105) rfl wr.heap.size (kcells op ab ap nb cb np cp).toArray (by rfl) (by rfl) 33 _ (Blk.new wr _ _) HZ.out (by rfl) (kcells_one _ _ _ _ _ _ _) ?_; intro W hW p5; have hbw := hW.below ((Below.refl _ wr).alloc (Nat.le_refl _) _) (Nat.le_refl _); have HNT := Lib.hid (HNT.out.on hbw); have HWT := Lib.hid (HWT.out.on hbw); have HST := Lib.hid (HST.out.on hbw); have HP5 := Lib.hid p5; have HB := Lib.hid (HB.out.trans (hbw.mono HB.out.size)); have b0 := p5.cell 0 (kcell0 _ _ _ _ _ _ _); have b1 := p5.cell 1 (kcell1 _ _ _ _ _ _ _); have b3 := p5.cell 3 (kcell3 _ _ _ _ _ _ _); clear hW p5 hbw) | (refine wpList_load_sub rfl 33 (.tmp 18) rfl wr.heap.size 0 rfl HP5.out (kcells op ab ap nb cb np cp) (fun j _ => by simp) _ Try.underlying33 rfl size_kop ?_))
                    go_wp2
                    go_roundw
                    case rel => exact ⟨k + 1, by have := HLT.out; have := HN.out; omega, by go_num, by rw [HSU.out], HNT.out, HWT.out, HST.out, HB.out⟩
                    case measure => have := HLT.out; have := HN.out; simp [intOf]; omega
              · have HWB := Lib.hid (show whB qb s i os2 k = true by
                  obtain rfl : k = os2.length := by have := HN.out; omega
                  rw [HQB.out]; exact whB_all HWL.out)
                rw [HWB.out]
                go_wp2
                go_roundw
                case rel => exact ⟨i + 1, by have := HII.out; omega, by go_num, HNT.out, HWT.out, HB.out⟩
                case measure => have := HII.out; simp [intOf]; omega
          · go_wp2
            go_ret
            exact ⟨rfl, HB.out⟩
end Go.Proofs.Ytgbahfggnbpnmaa
