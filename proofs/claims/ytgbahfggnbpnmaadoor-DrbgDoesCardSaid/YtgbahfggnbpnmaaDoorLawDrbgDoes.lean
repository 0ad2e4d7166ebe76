import Derived.Test.YtgbahfggnbpnmaaDoorDrbgX
/-
  The walk of liverylaw05.DrbgDoes.
-/
namespace Go.Proofs.YtgbahfggnbpnmaaDoor
open Go.RowKit
theorem range_on' {w w' : World} {g k : Nat} {cs : List Value} (h : w.rangeAt g k cs) (hb : Below w.heap.size w w') : w'.rangeAt g k cs := fun j v hv => by
  have h := h j v hv
  exact (hb.cell (p := ⟨g, k + j, none⟩) (block_lt_of_cell h)).trans h
/-- Bytes of the call's own that are counted up in place. -/
def IncAt (w : World) (lo hi : Nat) (a : Option Addr) (n : Nat) : Prop := ∀ k, k < n → ∃ g cur, a = some ⟨g, 0, none⟩ ∧ lo ≤ g ∧ g < hi ∧ Blk w g cur 5 ∧ ∀ i, i < n → ∃ x : UInt8, cur[i]? = some (bv x)
theorem IncAt.on {w w' : World} {lo hi : Nat} {a : Option Addr} {n : Nat} (h : IncAt w lo hi a n) (hb : Below w.heap.size w w') : IncAt w' lo hi a n := fun k hk => by
  obtain ⟨g, cur, e, h1, h2, h3, h4⟩ := h k hk
  exact ⟨g, cur, e, h1, h2, h3.on hb, h4⟩
theorem inc_of {w : World} {lo hi n c : Nat} {a : Option Addr} {l : List UInt8} (h : OwnB w lo (.slice a n c) l) (hh : w.heap.size ≤ hi) : IncAt w lo hi a n := fun k hk => by
  obtain ⟨a', c', e', h1, _, h3, h4, h5⟩ := h.form
  simp only [Value.slice.injEq] at e'
  obtain ⟨rfl, hn, rfl⟩ := e'
  obtain ⟨g, o, rfl, _⟩ := h3.at (i := k) (by omega)
  obtain ⟨rfl, cur, hB, hs, ht⟩ := h5 g o rfl
  have := h4 g 0 rfl
  refine ⟨g, cur, rfl, this.1, by omega, hB, fun i hi => ⟨l.getD i 0, ?_⟩⟩
  have h6 : (cur.toList.take l.length)[i]? = (l.map bv)[i]? := by rw [ht]
  rw [List.getElem?_take, if_pos (by omega), Array.getElem?_toList] at h6
  rw [h6]
  simp [List.getD, show i < l.length by omega]
set_option maxRecDepth 100000 in
set_option maxHeartbeats 2000000 in
theorem drbgdoes_walk (ent nonce person : List UInt8) (a b c0 : Option Addr) (n c m d p q : Nat) (os : List DOp) (b4 : Option Addr) (m4 d4 : Nat) (w : World) (hE : Txt w a n c ent) (hN : Txt w b m d nonce) (hP : Txt w c0 p q person) (hO : OpsIn w b4 m4 d4 os) (hT : Two w) :
    Calls Tryd.prog 20 #[.slice a n c, .slice b m d, .slice c0 p q, .slice b4 m4 d4] w fun e w' => e = .returned (.bool true) ∧ Below w.heap.size w w' := by
  have HE := Lib.hid hE
  have HN := Lib.hid hN
  have HP := Lib.hid hP
  have HO := Lib.hid hO
  have HT := Lib.hid hT
  have HNL := Lib.hid hE.len
  have HBL := Lib.hid hN.len
  have HCL := Lib.hid hP.len
  have HOL := Lib.hid hO.1
  clear hE hN hP hO hT
  by_cases k1 : longP ent
  · go_enter Tryd.func20, Tryd.ntmps20
    go_wp2_with fail
    refine (live5_walk w HT.out).mono ?_
    rintro e w1 ⟨rfl, hb1⟩
    have HB1 := Lib.hid hb1
    clear hb1
    go_wp2_with fail
    refine (long_yes k1 a n c HNL.out _).mono ?_
    rintro e w' ⟨rfl, rfl⟩
    go_wp2_with fail
    refine (live5_walk _ (HT.out.on HB1.out)).mono ?_
    rintro e w3 ⟨rfl, hb3⟩
    have HB3 := Lib.hid (HB1.out.trans (hb3.mono HB1.out.size))
    clear hb3
    go_wp2
    go_ret
    exact ⟨rfl, HB3.out⟩
  by_cases k2 : longP nonce
  · go_enter Tryd.func20, Tryd.ntmps20
    go_wp2_with fail
    refine (live5_walk w HT.out).mono ?_
    rintro e w1 ⟨rfl, hb1⟩
    have HB1 := Lib.hid hb1
    clear hb1
    go_wp2_with fail
    refine (long_no k1 a n c HNL.out _).mono ?_
    rintro e w' ⟨rfl, rfl⟩
    go_wp2_with fail
    refine (long_yes k2 b m d HBL.out _).mono ?_
    rintro e w' ⟨rfl, rfl⟩
    go_wp2_with fail
    refine (live5_walk _ (HT.out.on HB1.out)).mono ?_
    rintro e w3 ⟨rfl, hb3⟩
    have HB3 := Lib.hid (HB1.out.trans (hb3.mono HB1.out.size))
    clear hb3
    go_wp2
    go_ret
    exact ⟨rfl, HB3.out⟩
  by_cases k3 : longP person
  · go_enter Tryd.func20, Tryd.ntmps20
    go_wp2_with fail
    refine (live5_walk w HT.out).mono ?_
    rintro e w1 ⟨rfl, hb1⟩
    have HB1 := Lib.hid hb1
    clear hb1
    go_wp2_with fail
    refine (long_no k1 a n c HNL.out _).mono ?_
    rintro e w' ⟨rfl, rfl⟩
    go_wp2_with fail
    refine (long_no k2 b m d HBL.out _).mono ?_
    rintro e w' ⟨rfl, rfl⟩
    go_wp2_with fail
    refine (long_yes k3 c0 p q HCL.out _).mono ?_
    rintro e w' ⟨rfl, rfl⟩
    go_wp2_with fail
    refine (live5_walk _ (HT.out.on HB1.out)).mono ?_
    rintro e w3 ⟨rfl, hb3⟩
    have HB3 := Lib.hid (HB1.out.trans (hb3.mono HB1.out.size))
    clear hb3
    go_wp2
    go_ret
    exact ⟨rfl, HB3.out⟩
  by_cases k4 : muchP os
  · go_enter Tryd.func20, Tryd.ntmps20
    go_wp2_with fail
    refine (live5_walk w HT.out).mono ?_
    rintro e w1 ⟨rfl, hb1⟩
    have HB1 := Lib.hid hb1
    clear hb1
    go_wp2_with fail
    refine (long_no k1 a n c HNL.out _).mono ?_
    rintro e w' ⟨rfl, rfl⟩
    go_wp2_with fail
    refine (long_no k2 b m d HBL.out _).mono ?_
    rintro e w' ⟨rfl, rfl⟩
    go_wp2_with fail
    refine (long_no k3 c0 p q HCL.out _).mono ?_
    rintro e w' ⟨rfl, rfl⟩
    go_wp2_with fail
    refine (much_walk os b4 m4 d4 _ (HO.out.on HB1.out) true (by simp [k4])).mono ?_
    rintro e w2 ⟨rfl, hb2⟩
    have HB2 := Lib.hid (HB1.out.trans (hb2.mono HB1.out.size))
    clear hb2
    go_wp2_with fail
    refine (live5_walk w2 (HT.out.on HB2.out)).mono ?_
    rintro e w3 ⟨rfl, hb3⟩
    have HB3 := Lib.hid (HB2.out.trans (hb3.mono HB2.out.size))
    clear hb3
    go_wp2
    go_ret
    exact ⟨rfl, HB3.out⟩
  have HEL := Lib.hid (show ent.length ≤ 9000 by unfold longP at k1; omega)
  have hmo : m4 ≤ 40 := by unfold muchP at k4; have := HOL.out; omega
  obtain ⟨er, her⟩ : ∃ e, e = mayE ent [nonce, person] := ⟨_, rfl⟩
  have HER := Lib.hid her
  by_cases he : mayE ent [nonce, person] = 0
  · have HNE := Lib.hid he
    clear he her
    go_enter Tryd.func20, Tryd.ntmps20
    go_wp2_with fail
    refine (live5_walk w HT.out).mono ?_
    rintro e w1 ⟨rfl, hb1⟩
    have HB1 := Lib.hid hb1
    clear hb1
    go_wp2_with fail
    refine (long_no k1 a n c HNL.out _).mono ?_
    rintro e w' ⟨rfl, rfl⟩
    go_wp2_with fail
    refine (long_no k2 b m d HBL.out _).mono ?_
    rintro e w' ⟨rfl, rfl⟩
    go_wp2_with fail
    refine (long_no k3 c0 p q HCL.out _).mono ?_
    rintro e w' ⟨rfl, rfl⟩
    go_wp2_with fail
    refine (much_walk os b4 m4 d4 _ (HO.out.on HB1.out) false (by simp [k4])).mono ?_
    rintro e w2 ⟨rfl, hb2⟩
    have HB2 := Lib.hid (HB1.out.trans (hb2.mono HB1.out.size))
    clear hb2
    go_wp2_with fail
    refine (join1 w2 28 _ rfl (HE.out.on HB2.out) (by have := HEL.out; omega)).mono ?_
    rintro e w3 ⟨aj, nj, cj, rfl, hO3, hb3⟩
    have HB3 := Lib.hid (HB2.out.trans (hb3.mono HB2.out.size))
    have TJ := Lib.hid hO3.txt
    have hnj : nj ≤ 9000 := by have := TJ.out.len; have := HEL.out; omega
    have HI := Lib.hid (inc_of (hO3.mono HB2.out.size) (hi := w3.heap.size) (Nat.le_refl _))
    clear hO3 hb3
    go_wp2_with fail
    refine (dnew_any ent nonce person aj b c0 nj cj m d p q w3 TJ.out (HN.out.on HB3.out) (HP.out.on HB3.out) (HT.out.on HB3.out) HNE.out).mono ?_
    rintro e w4 ⟨G0, rfl, hG, hD, hb4⟩
    obtain ⟨s0, hs0⟩ : ∃ s, s = DS.mk (updK z32 (ones 32) (ent ++ (nonce ++ person))) (updV z32 (ones 32) (ent ++ (nonce ++ person))) 1 := ⟨_, rfl⟩
    rw [← hs0] at hD
    have HS0 := Lib.hid hs0
    have HG0 := Lib.hid hG
    have HGw := Lib.hid (show Hid (w.heap.size ≤ G0) from Nat.le_trans HB3.out.size hG)
    have HD4 := Lib.hid hD
    have HB4 := Lib.hid (HB3.out.trans (hb4.mono HB3.out.size))
    have HI := Lib.hid (HI.out.on hb4)
    have H34 := Lib.hid hb4.size
    clear hb4 hG hD hs0
    go_wp2_with fail
    refine (rnew_walk ent nonce person a b c0 n c m d p q w4 (HE.out.on HB4.out) (HN.out.on HB4.out) (HP.out.on HB4.out) HNE.out).mono ?_
    rintro e w5 ⟨ka, kn, kc, va, vn, vc, rfl, hK, hV, hfk, hfv, hb5⟩
    rw [show updK z32 (ones 32) (ent ++ (nonce ++ person)) = s0.k by rw [HS0.out]] at hK
    rw [show updV z32 (ones 32) (ent ++ (nonce ++ person)) = s0.v by rw [HS0.out]] at hV
    have FKG := Lib.hid (show Off ka s0.k G0 from fun q o e _ => by have := hfk q o e; have := HD4.out.1.blk.lt; omega)
    have FVG := Lib.hid (show Off va s0.v G0 from fun q o e _ => by have := hfv q o e; have := HD4.out.1.blk.lt; omega)
    have FK3 := Lib.hid (show ∀ q o, ka = some ⟨q, o, none⟩ → w3.heap.size ≤ q from fun q o e => Nat.le_trans H34.out (hfk q o e))
    have FV3 := Lib.hid (show ∀ q o, va = some ⟨q, o, none⟩ → w3.heap.size ≤ q from fun q o e => Nat.le_trans H34.out (hfv q o e))
    have HB5 := Lib.hid (HB4.out.trans (hb5.mono HB4.out.size))
    have HI := Lib.hid (HI.out.on hb5)
    have HD5 := Lib.hid (HD4.out.on hb5)
    have TK5 := Lib.hid hK
    have TV5 := Lib.hid hV
    have H35 := Lib.hid (Nat.le_trans H34.out hb5.size)
    have FK12 := Lib.hid (show Off ka s0.k w5.heap.size from hK.offG (Nat.le_refl _))
    have FV12 := Lib.hid (show Off va s0.v w5.heap.size from hV.offG (Nat.le_refl _))
    have HG12 := Lib.hid (show Hid (G0 ≠ w5.heap.size) by have := HD5.out.1.blk.lt; show _ ≠ _; omega)
    have HC1 := Lib.hid (show Hid ((1 : Int) = s0.c) by rw [HS0.out]; exact Lib.hid rfl)
    clear hb5 hK hV hfk hfv HD4
    go_wp2_with (refine wpList_store_abs rfl 88 (.tmp 12) (.tmp 54) (by rfl) w5.heap.size #[.slice ka kn kc, .slice va vn vc, .int .i64 1] (by rfl) (by rfl) 88 _ (Blk.new w5 _ _) size_ref5 (by rfl) (by simp [Value.oneCell']) ?_; intro w6 hW p; have hbW := hW.below ((Below.refl _ w5).alloc (Nat.le_refl _) _) (Nat.le_refl _); have HB6 := Lib.hid (HB5.out.trans (hbW.mono HB5.out.size)); have HI := Lib.hid (HI.out.on hbW); have HD6 := Lib.hid (HD5.out.on hbW); have TK6 := Lib.hid (TK5.out.on hbW); have TV6 := Lib.hid (TV5.out.on hbW); have B12 := Lib.hid p; clear hW p hbW)
    clear HD5 TK5 TV5 HB5 HB4
    have H12 := Lib.hid (show w3.heap.size ≤ w5.heap.size from H35.out)
    have HQ12 := Lib.hid (show w.heap.size ≤ w5.heap.size from Nat.le_trans HB3.out.size H35.out)
    generalize w5.heap.size = g12 at *
    go_loopw [68] (fun x wr => ∃ k : Nat, k ≤ nj ∧ x = .int .i64 (k : Nat) ∧ IncAt wr w.heap.size w3.heap.size aj nj ∧ Below w.heap.size w wr ∧ DS.At s0 wr G0 ∧ Blk wr g12 #[.slice ka kn kc, .slice va vn vc, .int .i64 1] 88 ∧ Txt wr ka kn kc s0.k ∧ Txt wr va vn vc s0.v) (fun x _ => nj - (intOf x).toNat)
    case atStart => exact ⟨0, Nat.zero_le _, rfl, HI.out, HB6.out, HD6.out, B12.out, TK6.out, TV6.out⟩
    case round =>
      obtain ⟨k, hk, rfl, hI, hb, hD, h12, hK, hV⟩ := hrel
      have HIr := Lib.hid hI
      have HBr := Lib.hid hb
      have HDr := Lib.hid hD
      have B12r := Lib.hid h12
      have TKr := Lib.hid hK
      have TVr := Lib.hid hV
      clear hI hb HI HB6 hD h12 hK hV HD6 B12 TK6 TV6
      by_cases hlt : k < nj
      · obtain ⟨gO, cur, rfl, hlo, hhi, hB, hx⟩ := HIr.out k hlt
        obtain ⟨x, hx1⟩ := hx k hlt
        have c0 := hB.cell k hx1
        have c1 := hB.free k
        have HBL2 := Lib.hid hB
        have HX := Lib.hid hx
        have HLO := Lib.hid hlo
        have HHI := Lib.hid hhi
        clear hx hx1 hB hlo hhi
        go_wp2
        go_roundw
        case rel =>
          refine ⟨k + 1, by omega, by go_num, ?_, below_setCell HBr.out HLO.out _, HDr.out.grown (grownBy_set (World.grownBy.refl wr (some gO)) k _) (by have := HHI.out; have := HG0.out; simp; omega), B12r.out.set' k _ (by have := HHI.out; have := H12.out; omega), TKr.out.off (grownBy_set (World.grownBy.refl wr (some gO)) k _) (fun q o e _ => by have := FK3.out q o e; have := HHI.out; omega), TVr.out.off (grownBy_set (World.grownBy.refl wr (some gO)) k _) (fun q o e _ => by have := FV3.out q o e; have := HHI.out; omega)⟩
          intro k2 hk2
          refine ⟨gO, _, rfl, HLO.out, HHI.out, by first | exact HBL2.out.set k _ | (rw [u8_next]; exact HBL2.out.set k _), fun i hi => ?_⟩
          by_cases hik : i = k
          · subst hik
            refine ⟨x + 1, ?_⟩
            obtain ⟨y, hy⟩ := HX.out i hi
            have hsz := (Array.getElem?_eq_some_iff.1 hy).1
            simp [hsz, ← u8_next]
          · obtain ⟨y, hy⟩ := HX.out i hi
            exact ⟨y, by rw [Array.getElem?_setIfInBounds_ne (by omega)]; exact hy⟩
        case measure => simp [intOf]; omega
      · have HKN := Lib.hid (show k = nj by omega)
        go_wp2
        go_loopw [10, 80] (fun y x wr => ∃ (i G : Nat) (s : DS) (kx vx : Option Addr) (kxn kxc vxn vxc : Nat) (C : Int), i ≤ m4 ∧ x = .int .i64 (i : Nat) ∧ y = .pointer (some ⟨G, 0, none⟩) ∧ s.At wr G ∧ Hid (C = s.c) ∧ Blk wr g12 #[.slice kx kxn kxc, .slice vx vxn vxc, .int .i64 C] 88 ∧ Txt wr kx kxn kxc s.k ∧ Txt wr vx vxn vxc s.v ∧ Off kx s.k G ∧ Off vx s.v G ∧ Off kx s.k g12 ∧ Off vx s.v g12 ∧ Hid (G ≠ g12) ∧ Hid (w.heap.size ≤ G) ∧ Below w.heap.size w wr) (fun _ x _ => m4 - (intOf x).toNat)
        case atStart => exact ⟨0, G0, s0, ka, va, kn, kc, vn, vc, 1, Nat.zero_le _, rfl, rfl, HDr.out, HC1.out, B12r.out, TKr.out, TVr.out, FKG.out, FVG.out, FK12.out, FV12.out, HG12.out, HGw.out, HBr.out⟩
        case round =>
          obtain ⟨i, G, s, kx, vx, kxn, kxc, vxn, vxc, C, hi, rfl, rfl, hD, HC, hB, hK, hV, fK, fV, fK2, fV2, HGn, HGl, hb⟩ := hrel
          have HD := Lib.hid hD
          have B12 := Lib.hid hB
          have TK := Lib.hid hK
          have TV := Lib.hid hV
          have FK := Lib.hid fK
          have FV := Lib.hid fV
          have FKt := Lib.hid fK2
          have FVt := Lib.hid fV2
          have HBs := Lib.hid hb
          clear hD hB hK hV fK fV fK2 fV2 hb HDr B12r TKr TVr HBr
          by_cases hlt2 : i < m4
          · obtain ⟨g, o, rfl, _, ab, aa, nb, cb, na, ca, hr, htb, hta⟩ := HO.out.2.2.2 i (by have := HOL.out; omega)
            obtain ⟨op, hop⟩ : ∃ op, op = os.getD i dop0 := ⟨_, rfl⟩
            rw [← hop] at hr htb hta
            have HR := Lib.hid (range_on' hr HBs.out)
            have HTB := Lib.hid htb
            have HTA := Lib.hid hta
            clear hr htb hta hop
            have HZ := Lib.hid (show (Tryd.prog.info? 84).map (·.size) = some (ocells op ab aa nb cb na ca).toArray.size from size_dop)
            have HX1 := Lib.hid (show wr.heap.size ≠ G by have := HD.out.1.blk.lt; omega)
            have HX2 := Lib.hid (show wr.heap.size ≠ g12 by have := B12.out.lt; omega)
            have HX3 := Lib.hid (show Off kx s.k wr.heap.size from TK.out.offG (Nat.le_refl _))
            have HX4 := Lib.hid (show Off vx s.v wr.heap.size from TV.out.offG (Nat.le_refl _))
            cases hcopy : op.copy with
            | false =>
              go_wp2_with (first | (refine wpList_load_mid rfl 84 (.tmp 82) rfl g (o + i * 5) rfl (ocells op ab aa nb cb na ca) _ HR.out Tryd.underlying84 rfl size_dop ?_) | (refine wpList_store_abs rfl 84 (.tmp 16) (.tmp 83) (by rfl) wr.heap.size (ocells op ab aa nb cb na ca).toArray (by rfl) (by rfl) 84 _ (Blk.new wr _ _) HZ.out (by rfl) (ocells_one _ _ _ _ _ _ _) ?_; intro W hW p5; have hbW := hW.below ((Below.refl _ wr).alloc (Nat.le_refl _) _) (Nat.le_refl _); have HB7 := Lib.hid (HBs.out.trans (hbW.mono HBs.out.size)); have HD := Lib.hid (HD.out.on hbW); have B12 := Lib.hid (B12.out.on hbW); have TK := Lib.hid (TK.out.on hbW); have TV := Lib.hid (TV.out.on hbW); have BX := Lib.hid p5; have b4 := p5.cell 4 (ocell4 _ _ _ _ _ _ _); rw [hcopy] at b4; clear hW p5 hbW) | (refine wpList_load_row rfl 88 (.tmp 12) rfl g12 rfl 88 _ _ _ B12.out Tryd.underlying88 rfl size_ref5 ?_) | (refine wpList_load_row rfl 84 (.tmp 16) rfl wr.heap.size rfl 84 _ _ _ BX.out Tryd.underlying84 rfl HZ.out ?_))
              generalize hgx : wr.heap.size = gx at *
              clear hgx
              have HBW := HB7
              have hCs := HC.out
              subst hCs
              refine (ddoes_walk s op G kx vx ab aa kxn kxc vxn vxc nb cb na ca W HD.out TK.out TV.out FK.out FV.out (HTB.out.on HBW.out) (HTA.out.on HBW.out) (HTB.out.offG HGl.out) (HTA.out.offG HGl.out) (HT.out.on HBW.out) (dtab HT.out HGl.out)).mono ?_
              rintro e w5 ⟨ky, kyn, kyc, vy, vyn, vyc, C2, rfl, hC2, hg, hD, hK, hV, fK, fV⟩
              obtain ⟨s2, hs2⟩ : ∃ z, z = (if op.res = true then s.reseed op.b op.add else s.next op.n op.add) := ⟨_, rfl⟩
              rw [← hs2] at hC2 hD hK hV fK fV
              have HC2 := Lib.hid hC2
              have FK2 := Lib.hid (fK G HD.out.1.blk.lt FK.out)
              have FV2 := Lib.hid (fV G HD.out.1.blk.lt FV.out)
              have FK3' := Lib.hid (fK g12 B12.out.lt FKt.out)
              have FV3' := Lib.hid (fV g12 B12.out.lt FVt.out)
              have HD2 := Lib.hid hD
              have B12 := Lib.hid (B12.out.grown hg (by have := HGn.out; simp; omega))
              have HB2w := Lib.hid (HBW.out.trans (below_of_grownBy hg HGl.out HBW.out.size))
              have FKx := Lib.hid (show Off ky s2.k w5.heap.size from hK.offG (Nat.le_refl _))
              have FVx := Lib.hid (show Off vy s2.v w5.heap.size from hV.offG (Nat.le_refl _))
              have hbx := below_one' w5 (.cells #[.slice none 0 0, .slice none 0 0, .int .i64 0] 88)
              have B18 := Lib.hid (Blk.new w5 #[.slice none 0 0, .slice none 0 0, .int .i64 0] 88)
              have HLg := Lib.hid (show G < w5.heap.size from hD.1.blk.lt)
              have HL12 := Lib.hid (show g12 < w5.heap.size from B12.out.lt)
              have HD2 := Lib.hid (HD2.out.on hbx)
              have B12 := Lib.hid (B12.out.on hbx)
              have HB2w := Lib.hid (HB2w.out.trans (hbx.mono HB2w.out.size))
              have TK2 := Lib.hid (hK.on hbx)
              have TV2 := Lib.hid (hV.on hbx)
              have HW5 := Lib.hid (show w.heap.size ≤ w5.heap.size from Nat.le_trans HBW.out.size hg.size)
              clear hbx hC2 hD hK hV fK fV hg hs2 TK TV HD HBW BX
              go_wp2_with (first | (refine wpList_store_abs rfl 88 (.tmp 18) (.tmp 100) (by rfl) w5.heap.size #[.slice ky kyn kyc, .slice vy vyn vyc, .int .i64 C2] (by rfl) (by rfl) 88 _ B18.out size_ref5 (by rfl) (by simp [Value.oneCell']) ?_; intro W6 hW p; have B18 := Lib.hid p; have HD2 := Lib.hid (HD2.out.grown (row_of_wrote hW) (by have := HLg.out; simp; omega)); have B12 := Lib.hid (hW.blk B12.out (by have := HL12.out; omega)); have HB2w := Lib.hid (hW.below HB2w.out HW5.out); have TK2 := Lib.hid (TK2.out.off (row_of_wrote hW) FKx.out); have TV2 := Lib.hid (TV2.out.off (row_of_wrote hW) FVx.out); clear hW p) | (refine wpList_load_row rfl 88 (.tmp 18) rfl w5.heap.size rfl 88 _ _ _ B18.out Tryd.underlying88 rfl size_ref5 ?_) | (refine wpList_store_abs rfl 88 (.tmp 12) (.tmp 104) (by rfl) g12 #[.slice ky kyn kyc, .slice vy vyn vyc, .int .i64 C2] (by rfl) (by rfl) 88 _ B12.out size_ref5 (by rfl) (by simp [Value.oneCell']) ?_; intro W7 hW p; have B12 := Lib.hid p; have HD2 := Lib.hid (HD2.out.grown (row_of_wrote hW) (by have := HGn.out; simp; omega)); have HB2w := Lib.hid (hW.below HB2w.out HQ12.out); have TK2 := Lib.hid (TK2.out.off (row_of_wrote hW) FK3'.out); have TV2 := Lib.hid (TV2.out.off (row_of_wrote hW) FV3'.out); clear hW p))
              go_roundw
              case rel => exact ⟨i + 1, G, s2, ky, vy, kyn, kyc, vyn, vyc, C2, by omega, by go_num, rfl, HD2.out, HC2, B12.out, TK2.out, TV2.out, FK2.out, FV2.out, FK3'.out, FV3'.out, HGn, HGl, HB2w.out⟩
              case measure => simp [intOf]; omega
            | true =>
              go_wp2_with (first | (refine wpList_load_mid rfl 84 (.tmp 82) rfl g (o + i * 5) rfl (ocells op ab aa nb cb na ca) _ HR.out Tryd.underlying84 rfl size_dop ?_) | (refine wpList_store_abs rfl 84 (.tmp 16) (.tmp 83) (by rfl) wr.heap.size (ocells op ab aa nb cb na ca).toArray (by rfl) (by rfl) 84 _ (Blk.new wr _ _) HZ.out (by rfl) (ocells_one _ _ _ _ _ _ _) ?_; intro W hW p5; have hbW := hW.below ((Below.refl _ wr).alloc (Nat.le_refl _) _) (Nat.le_refl _); have HB7 := Lib.hid (HBs.out.trans (hbW.mono HBs.out.size)); have HD := Lib.hid (HD.out.on hbW); have B12 := Lib.hid (B12.out.on hbW); have TK := Lib.hid (TK.out.on hbW); have TV := Lib.hid (TV.out.on hbW); have BX := Lib.hid p5; have b4 := p5.cell 4 (ocell4 _ _ _ _ _ _ _); rw [hcopy] at b4; clear hW p5 hbW))
              generalize hgx : wr.heap.size = gx at *
              clear hgx
              refine (dclone_walk s.k s.v s.c G W HD.out.1).mono ?_
              rintro e w9 ⟨rfl, hD9, hb⟩
              have HD9 := Lib.hid (show s.At w9 W.heap.size from ⟨hD9, HD.out.2⟩)
              have FKn := Lib.hid (show Off kx s.k W.heap.size from TK.out.offG (Nat.le_refl _))
              have FVn := Lib.hid (show Off vx s.v W.heap.size from TV.out.offG (Nat.le_refl _))
              have HN1 := Lib.hid (show W.heap.size ≠ G by have := HD.out.1.blk.lt; omega)
              have HN2 := Lib.hid (show W.heap.size ≠ g12 by have := B12.out.lt; omega)
              have HN3 := Lib.hid (show gx ≠ W.heap.size by have := BX.out.lt; omega)
              have HN4 := Lib.hid (show w.heap.size ≤ W.heap.size from HB7.out.size)
              have HB9 := Lib.hid (HB7.out.trans (hb.mono HB7.out.size))
              have HD := Lib.hid (HD.out.on hb)
              have B12 := Lib.hid (B12.out.on hb)
              have TK := Lib.hid (TK.out.on hb)
              have TV := Lib.hid (TV.out.on hb)
              have BX := Lib.hid (BX.out.on hb)
              clear hb hD9 b4
              generalize W.heap.size = gn at *
              go_wp2_with fail
              refine (draw_any s G [] none 5 0 0 w9 HD.out (Txt.nil _ 0) (fun _ _ e => by cases e) (HT.out.on HB9.out) (dtab HT.out HGl.out)).mono ?_
              rintro e W2 ⟨a9, n9, c9, he9, _, _, hg, _⟩
              obtain ⟨er9, her9⟩ : ∃ z, z = drawE 5 ([] : List UInt8).length s.c := ⟨_, rfl⟩
              rw [← her9] at he9
              subst he9
              have HD := Lib.hid (HD9.out.grown hg (by have := HN1.out; simpa using this))
              have B12 := Lib.hid (B12.out.grown hg (by have := HGn.out; simp; omega))
              have TK := Lib.hid (TK.out.off hg FK.out)
              have TV := Lib.hid (TV.out.off hg FV.out)
              have BX := Lib.hid (BX.out.grown hg (by have := HX1.out; simp; omega))
              have HBW := Lib.hid (HB9.out.trans (below_of_grownBy hg HGl.out HB9.out.size))
              clear hg her9 HD9 HB9
              have HX1 := Lib.hid HN3.out
              have HGl := Lib.hid HN4.out
              have HGn := Lib.hid HN2.out
              have FK := FKn
              have FV := FVn
              go_wp2_with (first | (refine wpList_load_row rfl 88 (.tmp 12) rfl g12 rfl 88 _ _ _ B12.out Tryd.underlying88 rfl size_ref5 ?_) | (refine wpList_load_row rfl 84 (.tmp 16) rfl gx rfl 84 _ _ _ BX.out Tryd.underlying84 rfl HZ.out ?_))
              have hCs := HC.out
              subst hCs
              refine (ddoes_walk s op gn kx vx ab aa kxn kxc vxn vxc nb cb na ca W2 HD.out TK.out TV.out FK.out FV.out (HTB.out.on HBW.out) (HTA.out.on HBW.out) (HTB.out.offG HGl.out) (HTA.out.offG HGl.out) (HT.out.on HBW.out) (dtab HT.out HGl.out)).mono ?_
              rintro e w5 ⟨ky, kyn, kyc, vy, vyn, vyc, C2, rfl, hC2, hg, hD, hK, hV, fK, fV⟩
              obtain ⟨s2, hs2⟩ : ∃ z, z = (if op.res = true then s.reseed op.b op.add else s.next op.n op.add) := ⟨_, rfl⟩
              rw [← hs2] at hC2 hD hK hV fK fV
              have HC2 := Lib.hid hC2
              have FK2 := Lib.hid (fK gn HD.out.1.blk.lt FK.out)
              have FV2 := Lib.hid (fV gn HD.out.1.blk.lt FV.out)
              have FK3' := Lib.hid (fK g12 B12.out.lt FKt.out)
              have FV3' := Lib.hid (fV g12 B12.out.lt FVt.out)
              have HD2 := Lib.hid hD
              have B12 := Lib.hid (B12.out.grown hg (by have := HGn.out; simp; omega))
              have HB2w := Lib.hid (HBW.out.trans (below_of_grownBy hg HGl.out HBW.out.size))
              have FKx := Lib.hid (show Off ky s2.k w5.heap.size from hK.offG (Nat.le_refl _))
              have FVx := Lib.hid (show Off vy s2.v w5.heap.size from hV.offG (Nat.le_refl _))
              have hbx := below_one' w5 (.cells #[.slice none 0 0, .slice none 0 0, .int .i64 0] 88)
              have B18 := Lib.hid (Blk.new w5 #[.slice none 0 0, .slice none 0 0, .int .i64 0] 88)
              have HLg := Lib.hid (show gn < w5.heap.size from hD.1.blk.lt)
              have HL12 := Lib.hid (show g12 < w5.heap.size from B12.out.lt)
              have HD2 := Lib.hid (HD2.out.on hbx)
              have B12 := Lib.hid (B12.out.on hbx)
              have HB2w := Lib.hid (HB2w.out.trans (hbx.mono HB2w.out.size))
              have TK2 := Lib.hid (hK.on hbx)
              have TV2 := Lib.hid (hV.on hbx)
              have HW5 := Lib.hid (show w.heap.size ≤ w5.heap.size from Nat.le_trans HBW.out.size hg.size)
              clear hbx hC2 hD hK hV fK fV hg hs2 TK TV HD HBW BX
              go_wp2_with (first | (refine wpList_store_abs rfl 88 (.tmp 18) (.tmp 100) (by rfl) w5.heap.size #[.slice ky kyn kyc, .slice vy vyn vyc, .int .i64 C2] (by rfl) (by rfl) 88 _ B18.out size_ref5 (by rfl) (by simp [Value.oneCell']) ?_; intro W6 hW p; have B18 := Lib.hid p; have HD2 := Lib.hid (HD2.out.grown (row_of_wrote hW) (by have := HLg.out; simp; omega)); have B12 := Lib.hid (hW.blk B12.out (by have := HL12.out; omega)); have HB2w := Lib.hid (hW.below HB2w.out HW5.out); have TK2 := Lib.hid (TK2.out.off (row_of_wrote hW) FKx.out); have TV2 := Lib.hid (TV2.out.off (row_of_wrote hW) FVx.out); clear hW p) | (refine wpList_load_row rfl 88 (.tmp 18) rfl w5.heap.size rfl 88 _ _ _ B18.out Tryd.underlying88 rfl size_ref5 ?_) | (refine wpList_store_abs rfl 88 (.tmp 12) (.tmp 104) (by rfl) g12 #[.slice ky kyn kyc, .slice vy vyn vyc, .int .i64 C2] (by rfl) (by rfl) 88 _ B12.out size_ref5 (by rfl) (by simp [Value.oneCell']) ?_; intro W7 hW p; have B12 := Lib.hid p; have HD2 := Lib.hid (HD2.out.grown (row_of_wrote hW) (by have := HGn.out; simp; omega)); have HB2w := Lib.hid (hW.below HB2w.out HQ12.out); have TK2 := Lib.hid (TK2.out.off (row_of_wrote hW) FK3'.out); have TV2 := Lib.hid (TV2.out.off (row_of_wrote hW) FV3'.out); clear hW p))
              go_roundw
              case rel => exact ⟨i + 1, gn, s2, ky, vy, kyn, kyc, vyn, vyc, C2, by omega, by go_num, rfl, HD2.out, HC2, B12.out, TK2.out, TV2.out, FK2.out, FV2.out, FK3'.out, FV3'.out, HGn, HGl, HB2w.out⟩
              case measure => simp [intOf]; omega
          · go_wp2
            go_ret
            exact ⟨rfl, HBs.out⟩
  · have HNE := Lib.hid he
    have hne : ¬ er = 0 := by rw [her]; exact he
    have hd1 : (er != 0) = true := by simpa using hne
    have hd2 : (er == 0) = false := by simpa using hne
    clear he her
    go_enter Tryd.func20, Tryd.ntmps20
    go_wp2_with fail
    refine (live5_walk w HT.out).mono ?_
    rintro e w1 ⟨rfl, hb1⟩
    have HB1 := Lib.hid hb1
    clear hb1
    go_wp2_with fail
    refine (long_no k1 a n c HNL.out _).mono ?_
    rintro e w' ⟨rfl, rfl⟩
    go_wp2_with fail
    refine (long_no k2 b m d HBL.out _).mono ?_
    rintro e w' ⟨rfl, rfl⟩
    go_wp2_with fail
    refine (long_no k3 c0 p q HCL.out _).mono ?_
    rintro e w' ⟨rfl, rfl⟩
    go_wp2_with fail
    refine (much_walk os b4 m4 d4 _ (HO.out.on HB1.out) false (by simp [k4])).mono ?_
    rintro e w2 ⟨rfl, hb2⟩
    have HB2 := Lib.hid (HB1.out.trans (hb2.mono HB1.out.size))
    clear hb2
    go_wp2_with fail
    refine (join1 w2 28 _ rfl (HE.out.on HB2.out) (by have := HEL.out; omega)).mono ?_
    rintro e w3 ⟨aj, nj, cj, rfl, hO3, hb3⟩
    have HB3 := Lib.hid (HB2.out.trans (hb3.mono HB2.out.size))
    have TJ := Lib.hid hO3.txt
    have hnj : nj ≤ 9000 := by have := TJ.out.len; have := HEL.out; omega
    have HI := Lib.hid (inc_of (hO3.mono HB2.out.size) (hi := w3.heap.size) (Nat.le_refl _))
    clear hO3 hb3
    go_wp2_with fail
    refine (dnew_err ent nonce person aj b c0 nj cj m d p q w3 TJ.out (HN.out.on HB3.out) (HP.out.on HB3.out) HNE.out).mono ?_
    rintro e w4 ⟨he4, hb4⟩
    rw [← HER.out] at he4
    subst he4
    have HB4 := Lib.hid (HB3.out.trans (hb4.mono HB3.out.size))
    have H34 := Lib.hid hb4.size
    have HI := Lib.hid (HI.out.on hb4)
    clear hb4
    go_wp2_with fail
    refine (rnew_err ent nonce person a b c0 n c m d p q w4 (HE.out.on HB4.out) (HN.out.on HB4.out) (HP.out.on HB4.out) HNE.out).mono ?_
    rintro e w5 ⟨he5, hb5⟩
    rw [← HER.out] at he5
    subst he5
    have HB5 := Lib.hid (HB4.out.trans (hb5.mono HB4.out.size))
    have HI := Lib.hid (HI.out.on hb5)
    have H35 := Lib.hid (show w3.heap.size ≤ w5.heap.size from Nat.le_trans H34.out hb5.size)
    clear hb5
    go_wp2_with (refine wpList_store_abs rfl 88 (.tmp 12) (.tmp 54) (by rfl) w5.heap.size #[.slice none 0 0, .slice none 0 0, .int .i64 0] (by rfl) (by rfl) 88 _ (Blk.new w5 _ _) size_ref5 (by rfl) (by simp [Value.oneCell']) ?_; intro w6 hW p; have HB6 := Lib.hid (HB5.out.trans ((hW.below ((Below.refl _ w5).alloc (Nat.le_refl _) _) (Nat.le_refl _)).mono HB5.out.size)); have HI := Lib.hid (HI.out.on (hW.below ((Below.refl _ w5).alloc (Nat.le_refl _) _) (Nat.le_refl _))); clear hW p)
    go_loopw [68] (fun x wr => ∃ k : Nat, k ≤ nj ∧ x = .int .i64 (k : Nat) ∧ IncAt wr w.heap.size w3.heap.size aj nj ∧ Below w.heap.size w wr) (fun x _ => nj - (intOf x).toNat)
    case atStart => exact ⟨0, Nat.zero_le _, rfl, HI.out, HB6.out⟩
    case round =>
      obtain ⟨k, hk, rfl, hI, hb⟩ := hrel
      have HIr := Lib.hid hI
      have HBr := Lib.hid hb
      clear hI hb HI HB6
      by_cases hlt : k < nj
      · obtain ⟨gO, cur, rfl, hlo, hhi, hB, hx⟩ := HIr.out k hlt
        obtain ⟨x, hx1⟩ := hx k hlt
        have c0 := hB.cell k hx1
        have c1 := hB.free k
        have HBL2 := Lib.hid hB
        have HX := Lib.hid hx
        have HLO := Lib.hid hlo
        have HHI := Lib.hid hhi
        clear hx hx1 hB hlo hhi
        go_wp2
        go_roundw
        case rel =>
          refine ⟨k + 1, by omega, by go_num, ?_, below_setCell HBr.out HLO.out _⟩
          intro k2 hk2
          refine ⟨gO, _, rfl, HLO.out, HHI.out, by first | exact HBL2.out.set k _ | (rw [u8_next]; exact HBL2.out.set k _), fun i hi => ?_⟩
          by_cases hik : i = k
          · subst hik
            refine ⟨x + 1, ?_⟩
            obtain ⟨y, hy⟩ := HX.out i hi
            have hsz := (Array.getElem?_eq_some_iff.1 hy).1
            simp [hsz, ← u8_next]
          · obtain ⟨y, hy⟩ := HX.out i hi
            exact ⟨y, by rw [Array.getElem?_setIfInBounds_ne (by omega)]; exact hy⟩
        case measure => simp [intOf]; omega
      · have HKN := Lib.hid (show k = nj by omega)
        go_wp2
        go_loopw [10, 80] (fun y x wr => ∃ i : Nat, i ≤ m4 ∧ x = .int .i64 (i : Nat) ∧ y = .pointer none ∧ Below w.heap.size w wr) (fun _ x _ => m4 - (intOf x).toNat)
        case atStart => exact ⟨0, Nat.zero_le _, rfl, rfl, HBr.out⟩
        case round =>
          obtain ⟨i, hi, rfl, rfl, hb⟩ := hrel
          have HBs := Lib.hid hb
          clear hb
          by_cases hlt2 : i < m4
          · obtain ⟨g, o, rfl, _, ab, aa, nb, cb, na, ca, hr, htb, hta⟩ := HO.out.2.2.2 i (by have := HOL.out; omega)
            obtain ⟨op, hop⟩ : ∃ op, op = os.getD i dop0 := ⟨_, rfl⟩
            rw [← hop] at hr htb hta
            have HR := Lib.hid (range_on' hr HBs.out)
            have HTB := Lib.hid htb
            have HTA := Lib.hid hta
            clear hr htb hta hop
            have HZ := Lib.hid (show (Tryd.prog.info? 84).map (·.size) = some (ocells op ab aa nb cb na ca).toArray.size from size_dop)
            go_wp2_with (first | (refine wpList_load_mid rfl 84 (.tmp 82) rfl g (o + i * 5) rfl (ocells op ab aa nb cb na ca) _ HR.out Tryd.underlying84 rfl size_dop ?_) | (refine wpList_store_abs rfl 84 (.tmp 16) (.tmp 83) (by rfl) wr.heap.size (ocells op ab aa nb cb na ca).toArray (by rfl) (by rfl) 84 _ (Blk.new wr _ _) HZ.out (by rfl) (ocells_one _ _ _ _ _ _ _) ?_; intro W hW p5; have HBW := Lib.hid (HBs.out.trans ((hW.below ((Below.refl _ wr).alloc (Nat.le_refl _) _) (Nat.le_refl _)).mono HBs.out.size)); clear hW p5))
            go_ret
            exact ⟨rfl, HBW.out⟩
          · go_wp2
            go_ret
            exact ⟨rfl, HBs.out⟩
end Go.Proofs.YtgbahfggnbpnmaaDoor
