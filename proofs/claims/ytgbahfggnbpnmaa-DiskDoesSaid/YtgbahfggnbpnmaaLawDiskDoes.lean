import Derived.Test.YtgbahfggnbpnmaaLwK
/-
  The walk of liverylaw17.DiskDoes.
-/
namespace Go.Proofs.Ytgbahfggnbpnmaa
open Go.RowKit
def D2J (w0 wr : World) (n b b' : Nat) (u : Value) (k : Nat) : Prop := ∃ av g v x S, Two17 w0 wr av b g n v S b' n u x S ∧ S.Lim k
theorem D2J.on {w0 wr w' : World} {n b b' k : Nat} {u : Value} (h : D2J w0 wr n b b' u k) (hb : Below wr.heap.size wr w') : D2J w0 w' n b b' u k := by
  obtain ⟨av, g, v, x, S, h1, h2⟩ := h; exact ⟨av, g, v, x, S, h1.on hb, h2⟩
theorem D2J.bl {w0 wr : World} {n b b' k : Nat} {u : Value} (h : D2J w0 wr n b b' u k) : Below w0.heap.size w0 wr := by
  obtain ⟨av, g, v, x, S, h1, h2⟩ := h; exact h1.bl
set_option maxRecDepth 100000 in
set_option maxHeartbeats 2000000 in
theorem diskDoes_walk (n : Int) (os2 : List KOp) (a2 : Option Addr) (m2 c2 : Nat) (w0 : World) (hK2 : KsIn w0 a2 m2 c2 os2) :
    Calls Try.prog 8 #[.int .i64 n, .slice a2 m2 c2] w0 fun e w' => e = .returned (.bool true) ∧ Below w0.heap.size w0 w' := by
  have HK := Lib.hid hK2
  have HN := Lib.hid hK2.1
  have hn63 : m2 ≤ 9223372036854775807 := by have h1 := hK2.2.1; have h2 := hK2.2.2.1; unfold maxLen at h2; omega
  clear hK2
  go_enter Try.func8, Try.ntmps8
  by_cases hbad : n < 8 ∨ 2048 < n
  · have HB := Lib.hid hbad
    clear hbad
    go_wp2_with fail
    refine (dnew_bad n HB.out _).mono ?_
    rintro e w1 ⟨rfl, rfl⟩
    go_wp2_with fail
    refine (rnew_bad n HB.out _).mono ?_
    rintro e w2 ⟨rfl, rfl⟩
    go_wp2_with fail
    refine (live17_walk _).mono ?_
    rintro e w3 ⟨rfl, hb⟩
    have HB3 := Lib.hid hb
    clear hb
    go_wp2
    go_ret
    exact ⟨rfl, HB3.out⟩
  obtain ⟨q, rfl⟩ : ∃ q : Nat, n = q := ⟨n.toNat, by omega⟩
  have HQ := Lib.hid (show 8 ≤ q ∧ q ≤ 2048 by omega)
  clear hbad
  go_wp2_with fail
  refine (dnew_walk q HQ.out _).mono ?_
  rintro e w1 ⟨b, g, rfl, hbl, hgl, hD, hb⟩
  have HD := Lib.hid hD
  have HF := Lib.hid (show ∀ k, Foot b g (.slice none 0 0) k → w0.heap.size ≤ k from fun k hk => by rcases hk with rfl | rfl | e; exact hbl; exact hgl; cases e)
  have HB := Lib.hid hb
  clear hbl hgl hD hb
  go_wp2_with fail
  refine (rnew_walk q HQ.out _).mono ?_
  rintro e w2 ⟨b', u, rfl, hR, hF, hb⟩
  have HT := Lib.hid (show Two17 w0 w2 (w1.heap.size ≤ ·) b g q (.slice none 0 0) (newS q) b' q u (.slice none 0 0) (newS q) from ⟨HD.out.on hb, hR, HF.out, fun k hk => Nat.le_trans HB.out.size (hF k hk), HB.out.trans (hb.mono HB.out.size)⟩)
  clear hR hF hb
  go_wp2_with fail
  refine (live17_walk _).mono ?_
  rintro e w3 ⟨rfl, hb⟩
  have HT := Lib.hid (HT.out.on hb)
  clear hb
  by_cases h64 : 64 < q
  · have h64' : (64 : Int) < (q : Int) := by omega
    go_wp2_with fail
    refine (same17_walk _ HT.out.d HT.out.r).mono ?_
    rintro e w4 ⟨rfl, hb⟩
    have HT := Lib.hid (HT.out.on hb)
    clear hb
    go_wp2
    go_ret
    exact ⟨rfl, HT.out.bl⟩
  have h64' : ¬ (64 : Int) < (q : Int) := by omega
  go_wp2_with fail
  refine (few17_walk os2 a2 m2 c2 _ (HK.out.on HT.out.bl)).mono ?_
  rintro e w4 ⟨M, rfl, hM, hb⟩
  have HT := Lib.hid (HT.out.on hb)
  cases M with
  | false =>
    clear hM hb
    go_wp2_with fail
    refine (same17_walk _ HT.out.d HT.out.r).mono ?_
    rintro e w5 ⟨rfl, hb⟩
    have HT := Lib.hid (HT.out.on hb)
    clear hb
    go_wp2
    go_ret
    exact ⟨rfl, HT.out.bl⟩
  | true =>
    have HW := Lib.hid (hM rfl)
    have HL := Lib.hid (show os2.length ≤ 200 from (hM rfl).2)
    have HJ := Lib.hid (show D2J w0 w4 q b b' u 0 from ⟨_, _, _, _, _, HT.out, newS_lim q⟩)
    clear hM hb
    go_wp2
    go_loopw [5, 56] (fun dv y wr => ∃ k b : Nat, k ≤ m2 ∧ y = .int .i64 (k : Nat) ∧ dv = .pointer (some ⟨b, 0, none⟩) ∧ Hid (D2J w0 wr q b b' u k)) (fun _ y _ => m2 - (intOf y).toNat)
    case atStart => exact ⟨0, b, Nat.zero_le _, rfl, rfl, HJ.out⟩
    case round =>
      obtain ⟨k, b, hk, rfl, rfl, HJ⟩ := hrel
      by_cases hlt : k < m2
      · obtain ⟨gk, ok, op, ab, ap, nb, cb, np, cp, ha, hop, hr, htb, htp, hin, hnl⟩ := HK.out.at_ hlt HW.out
        subst ha
        have HR := Lib.hid (range_on hr HJ.out.bl)
        have HOP := Lib.hid hop
        have HTB := Lib.hid htb
        have HTP := Lib.hid htp
        have HIN := Lib.hid hin
        have HNL := Lib.hid hnl
        have HLT := Lib.hid (show k < os2.length by have := HN.out; omega)
        clear hr hop htb htp hin hnl
        have HZ := Lib.hid (kz_kop op ab ap nb cb np cp)
        go_wp2_with (first | (refine wpList_load_mid rfl 33 (.tmp 58) rfl gk (ok + k * 6) rfl (kcells op ab ap nb cb np cp) _ HR.out Try.underlying33 rfl size_kop ?_) | (refine wpList_store_abs rfl 33 (.tmp 10) (.tmp 59) rfl wr.heap.size (kcells op ab ap nb cb np cp).toArray (by rfl) (by rfl) 33 _ (Blk.new wr _ _) HZ.out (by rfl) (kcells_one _ _ _ _ _ _ _) ?_; intro W hW p5; have hbw := hW.below ((Below.refl _ wr).alloc (Nat.le_refl _) _) (Nat.le_refl _); have HJ := Lib.hid (HJ.out.on hbw); have HP5 := Lib.hid p5; clear hW p5 hbw) | (refine wpList_load_sub rfl 33 (.tmp 10) rfl wr.heap.size 0 rfl HP5.out (kcells op ab ap nb cb np cp) (fun j _ => by simp) _ Try.underlying33 rfl size_kop ?_))
        obtain ⟨av, g, v, x, S, hT, hL⟩ := HJ.out
        have HT := Lib.hid hT
        have HLS := Lib.hid hL
        have HK2 := Lib.hid (show k ≤ 200 by have := HL.out; have := HLT.out; omega)
        clear hT hL HJ
        generalize hbx : wr.heap.size = bx at *
        refine (does17_walk op ab ap nb cb np cp w0 _ HT.out (HLS.out.mono (by have := HK2.out; omega)) (HLS.out.mono (by have := HK2.out; omega)) HNL.out HIN.out HTB.out HTP.out).mono ?_
        rintro e w5 ⟨t, rfl, ht, v5, x5, hT, hO, _, _⟩
        obtain rfl := ht rfl rfl
        have HP5 := Lib.hid (hO.blk HP5.out (fun q => q.elim (fun e => HT.out.d.foot_ty HP5.out (by decide) e) (fun e => HT.out.r.foot_ty HP5.out (by decide) e)))
        have HT := Lib.hid hT
        have HLS := Lib.hid (HLS.out.step op)
        clear hT hO ht
        go_wp2_with fail
        refine (same17_walk _ HT.out.d HT.out.r).mono ?_
        rintro e w6 ⟨rfl, hb⟩
        have HT := Lib.hid (HT.out.on hb)
        have HP6 := Lib.hid (HP5.out.on hb)
        have c0 := HP6.out.cell 0 (kcell0 _ _ _ _ _ _ _)
        clear hb
        by_cases h6 : op.act = 6
        · have h6' : (op.act == 6) = true := by simp [h6]
          clear h6
          go_wp2_with fail
          refine (dclone_at _ HT.out.d (by have := HLS.out.1; have := HK2.out; omega)).mono ?_
          rintro e w7 ⟨c, gc, vc, rfl, hC, hfc, hb⟩
          have HAC := Lib.hid (Apart.new HT.out.d hfc)
          have HFC := Lib.hid (show ∀ k, Foot c gc vc k → w0.heap.size ≤ k from fun k hk => Nat.le_trans HT.out.bl.size (hfc k hk))
          have HT := Lib.hid (HT.out.on hb)
          have HC := Lib.hid hC
          clear hC hfc hb c0
          go_wp2_with fail
          refine (dcrash_at none 0 0 [] rfl _ HT.out.d (by have := HLS.out.1; have := HK2.out; omega) (fun i hi => by cases hi)).mono ?_
          rintro e w8 ⟨⟨u7, rfl⟩, v7, hD, hO, hv⟩
          have HC := Lib.hid (HC.out.keep hO (fun k hk q => HAC.out k q hk))
          have HT8 := Lib.hid (HT.out.dstep hD hO (fun k e => .inl (hv k e)))
          have HT := Lib.hid (show Two17 w0 w8 _ c gc q vc (stepO S op) b' q u x5 (stepO S op) from ⟨HC.out, HT8.out.r, HFC.out, HT8.out.fr, HT8.out.bl⟩)
          clear hD hO hv
          go_wp2_with fail
          refine (same17_walk _ HT.out.d HT.out.r).mono ?_
          rintro e w9 ⟨rfl, hb⟩
          have HT := Lib.hid (HT.out.on hb)
          clear hb
          go_wp2
          go_roundw
          case rel => exact ⟨k + 1, c, by have := HLT.out; have := HN.out; omega, by go_num, rfl, ⟨_, _, _, _, _, HT.out, HLS.out⟩⟩
          case measure => have := HLT.out; have := HN.out; simp [intOf]; omega
        · have h6' : (op.act == 6) = false := by simp [h6]
          clear h6
          go_wp2
          go_roundw
          case rel => exact ⟨k + 1, b, by have := HLT.out; have := HN.out; omega, by go_num, rfl, ⟨_, _, _, _, _, HT.out, HLS.out⟩⟩
          case measure => have := HLT.out; have := HN.out; simp [intOf]; omega
      · obtain ⟨av, g, v, x, S, hT, _⟩ := HJ
        have HT := Lib.hid hT
        clear hT
        go_wp2_with fail
        refine (dimage_at _ HT.out.d).mono ?_
        rintro e wa ⟨aa, ma, rfl, hO, hb⟩
        have HIA := Lib.hid hO.txt
        have HT := Lib.hid (HT.out.on hb)
        clear hO hb
        go_wp2_with fail
        refine (rimage_at _ HT.out.r).mono ?_
        rintro e wb ⟨ab, mb, cb, rfl, hO, hb⟩
        have HIA := Lib.hid (HIA.out.below hb)
        have HIB := Lib.hid hO.txt
        have HT := Lib.hid (HT.out.on hb)
        clear hO hb
        go_wp2_with fail
        refine (equal_q _ _ _ _ _ _ _ _ HIA.out HIB.out).mono ?_
        rintro e wc ⟨rfl, rfl⟩
        go_wp2
        go_ret
        exact ⟨rfl, HT.out.bl⟩
end Go.Proofs.Ytgbahfggnbpnmaa
