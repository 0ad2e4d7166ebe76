import Derived.Test.YtgbahfggnbpnmaaLwK
/-
  The walk of liverylaw17.DiskDouble.
-/
namespace Go.Proofs.Ytgbahfggnbpnmaa
open Go.RowKit
set_option maxRecDepth 100000 in
set_option maxHeartbeats 2000000 in
theorem diskDouble_walk (n : Int) (os os2 : List KOp) (a a2 : Option Addr) (m c m2 c2 : Nat) (w0 : World) (hK : KsIn w0 a m c os) (hK2 : KsIn w0 a2 m2 c2 os2) :
    Calls Try.prog 6 #[.int .i64 n, .slice a m c, .slice a2 m2 c2] w0 fun e w' => e = .returned (.bool true) ∧ Below w0.heap.size w0 w' := by
  have HK1 := Lib.hid hK
  have HK := Lib.hid hK2
  have HN := Lib.hid hK2.1
  have hn63 : m2 ≤ 9223372036854775807 := by have h1 := hK2.2.1; have h2 := hK2.2.2.1; unfold maxLen at h2; omega
  clear hK hK2
  go_enter Try.func6, Try.ntmps6
  go_wp2_with fail
  refine (worn_walk n os a m c _ HK1.out).mono ?_
  rintro e w1 ⟨p, rfl, hb1, hp⟩
  have HB1 := Lib.hid hb1
  have HP := Lib.hid hp
  clear hb1 hp
  go_wp2_with fail
  refine (live17_walk _).mono ?_
  rintro e w2 ⟨rfl, hb⟩
  have HB2 := Lib.hid (HB1.out.trans (hb.mono HB1.out.size))
  have HP := Lib.hid (show p = none ∨ ∃ b g nn v S, p = some ⟨b, 0, none⟩ ∧ Worn w0 w2 b g nn v S from HP.out.imp id fun ⟨b, g, nn, v, S, e, hW⟩ => ⟨b, g, nn, v, S, e, ⟨hW.d.on hb, hW.n, hW.fd, hW.calm, hW.lim⟩⟩)
  clear hb HB1
  rcases HP.out with rfl | ⟨b, g, nn, v, S, rfl, hW⟩
  · clear HP
    go_wp2_with fail
    refine (live17_walk _).mono ?_
    rintro e w3 ⟨rfl, hb⟩
    have HB3 := Lib.hid (HB2.out.trans (hb.mono HB2.out.size))
    clear hb
    go_wp2
    go_ret
    exact ⟨rfl, HB3.out⟩
  have HWN := Lib.hid hW
  clear hW HP
  go_wp2_with fail
  refine (few17_walk os2 a2 m2 c2 _ (HK.out.on HB2.out)).mono ?_
  rintro e w3 ⟨M, rfl, hM, hb⟩
  have HB3 := Lib.hid (HB2.out.trans (hb.mono HB2.out.size))
  have HD := Lib.hid (HWN.out.d.on hb)
  cases M with
  | false =>
    clear hM hb
    go_wp2_with fail
    refine (live17_walk _).mono ?_
    rintro e w4 ⟨rfl, hb⟩
    have HB4 := Lib.hid (HB3.out.trans (hb.mono HB3.out.size))
    clear hb
    go_wp2
    go_ret
    exact ⟨rfl, HB4.out⟩
  | true =>
    have HW := Lib.hid (hM rfl)
    have HL := Lib.hid (show os2.length ≤ 200 from (hM rfl).2)
    clear hM hb HB2
    go_wp2_with fail
    refine (dclone_at _ HD.out (by have := HWN.out.lim.1; omega)).mono ?_
    rintro e w4 ⟨c, gc, vc, rfl, hC, hfc, hb⟩
    have HAC := Lib.hid (Apart.new HD.out hfc)
    have HFC := Lib.hid (show ∀ k, Foot c gc vc k → w0.heap.size ≤ k from fun k hk => Nat.le_trans HB3.out.size (hfc k hk))
    have HD := Lib.hid (HD.out.on hb)
    have HC := Lib.hid hC
    have HB4 := Lib.hid (HB3.out.trans (hb.mono HB3.out.size))
    clear hC hfc hb HB3
    go_wp2_with fail
    refine (dclone_at _ HD.out (by have := HWN.out.lim.1; omega)).mono ?_
    rintro e w5 ⟨h, gh, vh, rfl, hH, hfh, hb⟩
    have HAH := Lib.hid (Apart.new HD.out hfh)
    have HCH := Lib.hid (Apart.new HC.out hfh)
    have HD := Lib.hid (HD.out.on hb)
    have HC := Lib.hid (HC.out.on hb)
    have HH := Lib.hid hH
    have HB5 := Lib.hid (HB4.out.trans (hb.mono HB4.out.size))
    clear hH hfh hb HB4
    go_wp2_with fail
    refine (dimage_at _ HH.out).mono ?_
    rintro e w6 ⟨ai, mi, rfl, hOi, hb⟩
    obtain ⟨was, hwas⟩ : ∃ x : Value, x = .slice ai mi mi := ⟨_, rfl⟩
    have HWI := Lib.hid hOi.tu
    have HD := Lib.hid (HD.out.on hb)
    have HC := Lib.hid (HC.out.on hb)
    have HH := Lib.hid (HH.out.on hb)
    have HB6 := Lib.hid (HB5.out.trans (hb.mono HB5.out.size))
    rw [← hwas] at HWI ⊢
    have HWAS := Lib.hid hwas
    clear hOi hb HB5 hwas
    go_wp2_with fail
    refine (rnew_walk 8 (by omega) _).mono ?_
    rintro e w7 ⟨b', u, rfl, hR, hF, hb⟩
    have HJ := Lib.hid (show DJ w0 w7 b g nn c gc vc S h gh vh S b' u S was S.image os2 0 0 from ⟨(w6.heap.size ≤ ·), v, .slice none 0 0, newS 8, ⟨HD.out.on hb, hR, HWN.out.fd, fun k hk => Nat.le_trans HB6.out.size (hF k hk), HB6.out.trans (hb.mono HB6.out.size)⟩, HWN.out.lim, (newS_lim 8).mono (by omega), HC.out.on hb, HH.out.on hb, HAC.out, HAH.out, HWI.out.on hb⟩)
    clear hR hF hb HD HC HH HWI HB6
    go_wp2
    go_loopw [50] (fun y wr => ∃ k : Nat, k ≤ m2 ∧ y = .int .i64 (k : Nat) ∧ Hid (DJ w0 wr b g nn c gc vc S h gh vh S b' u S was S.image os2 0 k)) (fun y _ => m2 - (intOf y).toNat)
    case atStart => exact ⟨0, Nat.zero_le _, rfl, HJ.out⟩
    case round =>
      obtain ⟨k, hk, rfl, HJ⟩ := hrel
      by_cases hlt : k < m2
      · obtain ⟨gk, ok, op, ab, ap, nb, cb, np, cp, ha, hop, hr, htb, htp, hin, hnl⟩ := HK.out.at_ hlt HW.out
        subst ha
        have HR := Lib.hid (range_on hr HJ.out.bl)
        have HOP := Lib.hid hop
        have HTB := Lib.hid htb
        have HTP := Lib.hid htp
        have HIN := Lib.hid hin
        have HNL := Lib.hid hnl
        have HLT := Lib.hid (show k < os2.length by have := HN.out; omega)
        clear hr hop htb htp hin hnl
        have HZ := Lib.hid (kz_kop op ab ap nb cb np cp)
        go_wp2_with (first | (refine wpList_load_mid rfl 33 (.tmp 52) rfl gk (ok + k * 6) rfl (kcells op ab ap nb cb np cp) _ HR.out Try.underlying33 rfl size_kop ?_) | (refine wpList_store_abs rfl 33 (.tmp 14) (.tmp 53) rfl wr.heap.size (kcells op ab ap nb cb np cp).toArray (by rfl) (by rfl) 33 _ (Blk.new wr _ _) HZ.out (by rfl) (kcells_one _ _ _ _ _ _ _) ?_; intro W hW p5; have hbw := hW.below ((Below.refl _ wr).alloc (Nat.le_refl _) _) (Nat.le_refl _); have HJ := Lib.hid (HJ.out.on hbw); have HP5 := Lib.hid p5; clear hW p5 hbw) | (refine wpList_load_sub rfl 33 (.tmp 14) rfl wr.heap.size 0 rfl HP5.out (kcells op ab ap nb cb np cp) (fun j _ => by simp) _ Try.underlying33 rfl size_kop ?_))
        refine (HJ.out.does (by omega) HLT.out HL.out HOP.out HNL.out HIN.out HTB.out HTP.out).mono ?_
        rintro e w5 ⟨t, rfl, hJ⟩
        have HJ5 := Lib.hid hJ
        clear hJ
        go_wp2
        go_roundw
        case rel => exact ⟨k + 1, by have := HLT.out; have := HN.out; omega, by go_num, HJ5.out⟩
        case measure => have := HLT.out; have := HN.out; simp [intOf]; omega
      · have HE := Lib.hid (show os2.take k = os2 from List.take_of_length_le (by have := HN.out; omega))
        obtain ⟨vd, hJ2⟩ : ∃ vd, DJ w0 wr c gc nn b g vd (os2.foldl stepO S) h gh vh S b' u S was S.image os2 200 0 := by
          obtain ⟨av, vd, x, R, h1, h2, h3, h4, h5, h6, h7, h8⟩ := HJ.out
          rw [HE.out] at h1
          exact ⟨vd, av, vc, x, R, ⟨h4, h1.r, HFC.out, h1.fr, h1.bl⟩, HWN.out.lim, h3.mono (by have := HN.out; have := HL.out; omega), h1.d, h5, h6.symm, HCH.out, h8⟩
        have HJ := Lib.hid hJ2
        clear hJ2
        go_wp2
        go_loopw [61] (fun y wr => ∃ k : Nat, k ≤ m2 ∧ y = .int .i64 (k : Nat) ∧ Hid (DJ w0 wr c gc nn b g vd (os2.foldl stepO S) h gh vh S b' u S was S.image os2 200 k)) (fun y _ => m2 - (intOf y).toNat)
        case atStart => exact ⟨0, Nat.zero_le _, rfl, HJ.out⟩
        case round =>
          obtain ⟨k, hk, rfl, HJ⟩ := hrel
          by_cases hlt : k < m2
          · obtain ⟨gk, ok, op, ab, ap, nb, cb, np, cp, ha, hop, hr, htb, htp, hin, hnl⟩ := HK.out.at_ hlt HW.out
            subst ha
            have HR := Lib.hid (range_on hr HJ.out.bl)
            have HOP := Lib.hid hop
            have HTB := Lib.hid htb
            have HTP := Lib.hid htp
            have HIN := Lib.hid hin
            have HNL := Lib.hid hnl
            have HLT := Lib.hid (show k < os2.length by have := HN.out; omega)
            clear hr hop htb htp hin hnl
            have HZ := Lib.hid (kz_kop op ab ap nb cb np cp)
            go_wp2_with (first | (refine wpList_load_mid rfl 33 (.tmp 63) rfl gk (ok + k * 6) rfl (kcells op ab ap nb cb np cp) _ HR.out Try.underlying33 rfl size_kop ?_) | (refine wpList_store_abs rfl 33 (.tmp 16) (.tmp 64) rfl wr.heap.size (kcells op ab ap nb cb np cp).toArray (by rfl) (by rfl) 33 _ (Blk.new wr _ _) HZ.out (by rfl) (kcells_one _ _ _ _ _ _ _) ?_; intro W hW p5; have hbw := hW.below ((Below.refl _ wr).alloc (Nat.le_refl _) _) (Nat.le_refl _); have HJ := Lib.hid (HJ.out.on hbw); have HP5 := Lib.hid p5; clear hW p5 hbw) | (refine wpList_load_sub rfl 33 (.tmp 16) rfl wr.heap.size 0 rfl HP5.out (kcells op ab ap nb cb np cp) (fun j _ => by simp) _ Try.underlying33 rfl size_kop ?_))
            refine (HJ.out.does (by omega) HLT.out HL.out HOP.out HNL.out HIN.out HTB.out HTP.out).mono ?_
            rintro e w5 ⟨t, rfl, hJ⟩
            have HJ5 := Lib.hid hJ
            clear hJ
            go_wp2
            go_roundw
            case rel => exact ⟨k + 1, by have := HLT.out; have := HN.out; omega, by go_num, HJ5.out⟩
            case measure => have := HLT.out; have := HN.out; simp [intOf]; omega
          · have HE := Lib.hid (show os2.take k = os2 from List.take_of_length_le (by have := HN.out; omega))
            obtain ⟨av, vx, x, R, h1, h2, h3, h4, h5, h6, h7, h8⟩ := HJ.out
            rw [HE.out] at h1
            have HC := Lib.hid h1.d
            have HB := Lib.hid h1.bl
            have HD := Lib.hid h4
            have HH := Lib.hid h5
            obtain ⟨ai, mi, ci, rfl, h9, h10⟩ := h8
            have HWI := Lib.hid (show TU wr (.slice ai mi ci) S.image from ⟨ai, mi, ci, rfl, h9, h10⟩)
            clear h1 h2 h3 h4 h5 h6 h7 h9 h10
            go_wp2_with fail
            refine (dimage_at _ HD.out).mono ?_
            rintro e wa ⟨aa, ma, rfl, hO, hb⟩
            have HIA := Lib.hid hO.txt
            have HC := Lib.hid (HC.out.on hb)
            have HD := Lib.hid (HD.out.on hb)
            have HH := Lib.hid (HH.out.on hb)
            have HWI := Lib.hid (HWI.out.on hb)
            have HB := Lib.hid (HB.out.trans (hb.mono HB.out.size))
            clear hO hb
            go_wp2_with fail
            refine (dimage_at _ HC.out).mono ?_
            rintro e wb ⟨ab, mb, rfl, hO, hb⟩
            have HIA := Lib.hid (HIA.out.below hb)
            have HIB := Lib.hid hO.txt
            have HC := Lib.hid (HC.out.on hb)
            have HD := Lib.hid (HD.out.on hb)
            have HH := Lib.hid (HH.out.on hb)
            have HWI := Lib.hid (HWI.out.on hb)
            have HB := Lib.hid (HB.out.trans (hb.mono HB.out.size))
            clear hO hb
            go_wp2_with fail
            refine (equal_q _ _ _ _ _ _ _ _ HIA.out HIB.out).mono ?_
            rintro e wc ⟨rfl, rfl⟩
            go_wp2_with fail
            refine (don_at _ HD.out).mono ?_
            rintro e wc ⟨rfl, rfl⟩
            go_wp2_with fail
            refine (don_at _ HC.out).mono ?_
            rintro e wc ⟨rfl, rfl⟩
            obtain ⟨gn, hgn⟩ : ∃ gn, gn = !(os2.foldl stepO S).gone := ⟨_, rfl⟩
            rw [← hgn]
            have q1 : (gn == gn) = true := by simp
            clear hgn
            go_wp2_with fail
            refine (dwaits_at _ HD.out).mono ?_
            rintro e wc ⟨rfl, rfl⟩
            go_wp2_with fail
            refine (dwaits_at _ HC.out).mono ?_
            rintro e wc ⟨rfl, rfl⟩
            obtain ⟨wn, hwn⟩ : ∃ wn, wn = (os2.foldl stepO S).wait.length := ⟨_, rfl⟩
            rw [← hwn]
            have q2 : ((wn : Int) == (wn : Int)) = true := by simp
            clear hwn
            go_wp2_with fail
            refine (dops_at _ HD.out).mono ?_
            rintro e wc ⟨rfl, rfl⟩
            go_wp2_with fail
            refine (dops_at _ HC.out).mono ?_
            rintro e wc ⟨rfl, rfl⟩
            obtain ⟨op, hop⟩ : ∃ op, op = (os2.foldl stepO S).ops := ⟨_, rfl⟩
            rw [← hop]
            have q3 : ((op : Int) == (op : Int)) = true := by simp
            clear hop
            go_wp2_with fail
            refine (dimage_at _ HH.out).mono ?_
            rintro e wd ⟨ad, md, rfl, hO, hb⟩
            have HID := Lib.hid hO.txt
            have HWI := Lib.hid (HWI.out.on hb)
            have HB := Lib.hid (HB.out.trans (hb.mono HB.out.size))
            clear hO hb
            obtain ⟨ai', mi', ci', ewi, hwi, _⟩ := HWI.out
            cases ewi
            have HWT := Lib.hid hwi
            clear hwi
            go_wp2_with fail
            refine (equal_q _ _ _ _ _ _ _ _ HID.out HWT.out).mono ?_
            rintro e we ⟨rfl, rfl⟩
            go_wp2
            go_ret
            exact ⟨rfl, HB.out⟩
end Go.Proofs.Ytgbahfggnbpnmaa
