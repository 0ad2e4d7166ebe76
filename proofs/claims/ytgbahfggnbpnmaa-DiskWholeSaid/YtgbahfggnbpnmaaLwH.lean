import Derived.Test.YtgbahfggnbpnmaaLwE
import Derived.Test.YtgbahfggnbpnmaaLwG
/-
  liverylaw17.does for any act; worn.
-/
namespace Go.Proofs.Ytgbahfggnbpnmaa
open Go.RowKit
theorem does17_walk (o : KOp) {av : Nat → Prop} {b g n b' n' : Nat} {v u xv : Value} {S R : DS} (ab ap : Option Addr) (nb cb np cp : Nat) (w0 w : World) (h : Two17 w0 w av b g n v S b' n' u xv R) (hlS : S.Lim 1000) (hlR : R.Lim 1000) (hlb : ¬ longK o) (hin : o.In) (hB : Txt w0 ab nb cb o.b) (hP : BTx w0 ap np cp o.pick) :
    Calls Try.prog 24 #[.pointer (some ⟨b, 0, none⟩), .pointer (some ⟨b', 0, none⟩), .agg (kcells o ab ap nb cb np cp).toArray] w fun e w' => ∃ t, e = .returned (.bool t) ∧ (S = R → n = n' → t = true) ∧ ∃ v' x', Two17 w0 w' (fun k => av k ∨ w.heap.size ≤ k) b g n v' (stepO S o) b' n' u x' (stepO R o) ∧ Only (fun k => Foot b g v k ∨ RFoot b' u xv k) w w' ∧ (∀ k, v'.ownBlock = some k → v.ownBlock = some k ∨ w.heap.size ≤ k) ∧ (∀ k, x'.ownBlock = some k → xv.ownBlock = some k ∨ w.heap.size ≤ k) := by
  obtain ⟨ac, i, nn, x, bl, pk⟩ := o
  have hlb2 : bl.length ≤ 1000 := by unfold longK at hlb; simp only at hlb; omega
  have hnn : nn ≤ 9223372036854775807 := hin.2
  by_cases h0 : ac = 0
  · subst h0; exact does17_read i nn x bl pk ab ap nb cb np cp w0 w h hlS hlR hlb2 hnn hB hP
  by_cases h1 : ac = 1
  · subst h1; exact does17_write i nn x bl pk ab ap nb cb np cp w0 w h hlS hlR hlb2 hnn hB hP
  by_cases h2 : ac = 2
  · subst h2; exact does17_sync i nn x bl pk ab ap nb cb np cp w0 w h hlS hlR hlb2 hnn hB hP
  by_cases h3 : ac = 3
  · subst h3; exact does17_arm i nn x bl pk ab ap nb cb np cp w0 w h hlS hlR hlb2 hnn hB hP
  by_cases h4 : ac = 4
  · subst h4; exact does17_calm i nn x bl pk ab ap nb cb np cp w0 w h hlS hlR hlb2 hnn hB hP
  by_cases h5 : ac = 5
  · subst h5; exact does17_crash i nn x bl pk ab ap nb cb np cp w0 w h hlS hlR hlb2 hnn hB hP
  by_cases h7 : ac = 7
  · subst h7; exact does17_raw i nn x bl pk ab ap nb cb np cp w0 w h hlS hlR hlb2 hnn hB hP
  · exact does17_else i nn x bl pk ac ⟨h0, h1, h2, h3, h4, h5, h7⟩ ab ap nb cb np cp w0 w h hlS hlR hlb2 hnn hB hP
def WornJ (w0 wr : World) (b g n b' : Nat) (u : Value) (k : Nat) : Prop := ∃ av v S x R, Two17 w0 wr av b g n v S b' n u x R ∧ S.Lim k ∧ R.Lim k
/-- A disk of the law's own, that nothing has power over. -/
structure Worn (w0 w : World) (b g n : Nat) (v : Value) (S : DS) : Prop where
  d : DiskAt w b g n v S
  n : 8 ≤ n ∧ n ≤ 64
  fd : ∀ k, Foot b g v k → w0.heap.size ≤ k
  calm : S.Calm
  lim : S.Lim 200
set_option maxRecDepth 100000 in
set_option maxHeartbeats 2000000 in
theorem worn_walk (n : Int) (os : List KOp) (a : Option Addr) (m c : Nat) (w0 : World) (hK : KsIn w0 a m c os) :
    Calls Try.prog 10 #[.int .i64 n, .slice a m c] w0 fun e w' => ∃ p, e = .returned (.pointer p) ∧ Below w0.heap.size w0 w' ∧ (p = none ∨ ∃ b g nn v S, p = some ⟨b, 0, none⟩ ∧ Worn w0 w' b g nn v S) := by
  have HK := Lib.hid hK
  have HN := Lib.hid hK.1
  have hn63 : m ≤ 9223372036854775807 := by have h1 := hK.2.1; have h2 := hK.2.2.1; unfold maxLen at h2; omega
  clear hK
  go_enter Try.func10, Try.ntmps10
  by_cases hbad : n < 8 ∨ 2048 < n
  · have HB := Lib.hid hbad
    clear hbad
    go_wp2_with fail
    refine (dnew_bad n HB.out _).mono ?_
    rintro e w1 ⟨rfl, rfl⟩
    go_wp2_with fail
    refine (rnew_bad n HB.out _).mono ?_
    rintro e w2 ⟨rfl, rfl⟩
    go_wp2
    go_ret
    exact ⟨none, rfl, Below.refl _ _, .inl rfl⟩
  obtain ⟨q, rfl⟩ : ∃ q : Nat, n = q := ⟨n.toNat, by omega⟩
  have HQ := Lib.hid (show 8 ≤ q ∧ q ≤ 2048 by omega)
  clear hbad
  go_wp2_with fail
  refine (dnew_walk q HQ.out _).mono ?_
  rintro e w1 ⟨b, g, rfl, hbl, hgl, hD, hb⟩
  have HD := Lib.hid hD
  have HF := Lib.hid (show ∀ k, Foot b g (.slice none 0 0) k → w0.heap.size ≤ k from fun k hk => by rcases hk with rfl | rfl | e; exact hbl; exact hgl; cases e)
  have HB := Lib.hid hb
  clear hbl hgl hD hb
  go_wp2_with fail
  refine (rnew_walk q HQ.out _).mono ?_
  rintro e w2 ⟨b', u, rfl, hR, hF, hb⟩
  have HT := Lib.hid (show Two17 w0 w2 (w1.heap.size ≤ ·) b g q (.slice none 0 0) (newS q) b' q u (.slice none 0 0) (newS q) from ⟨HD.out.on hb, hR, HF.out, fun k hk => Nat.le_trans HB.out.size (hF k hk), HB.out.trans (hb.mono HB.out.size)⟩)
  clear hR hF hb
  by_cases h64 : 64 < q
  · have h64' : (64 : Int) < (q : Int) := by omega
    go_wp2
    go_ret
    exact ⟨none, rfl, HT.out.bl, .inl rfl⟩
  have h64' : ¬ (64 : Int) < (q : Int) := by omega
  go_wp2_with fail
  refine (few17_walk os a m c _ (HK.out.on HT.out.bl)).mono ?_
  rintro e w3 ⟨M, rfl, hM, hb⟩
  have HT := Lib.hid (HT.out.on hb)
  cases M with
  | false =>
    clear hM hb
    go_wp2
    go_ret
    exact ⟨none, rfl, HT.out.bl, .inl rfl⟩
  | true =>
    have HW := Lib.hid (hM rfl)
    have HJ := Lib.hid (show WornJ w0 w3 b g q b' u 0 from ⟨_, _, _, _, _, HT.out, newS_lim q, newS_lim q⟩)
    clear hM hb
    go_wp2
    go_loopw [38] (fun y wr => ∃ k : Nat, k ≤ m ∧ y = .int .i64 (k : Nat) ∧ Hid (WornJ w0 wr b g q b' u k)) (fun y _ => m - (intOf y).toNat)
    case atStart => exact ⟨0, Nat.zero_le _, rfl, HJ.out⟩
    case round =>
      obtain ⟨k, hk, rfl, ⟨av, v, S, x, R, HT, HLS, HLR⟩⟩ := hrel
      replace HT := Lib.hid HT
      replace HLS := Lib.hid HLS
      replace HLR := Lib.hid HLR
      by_cases hlt : k < m
      · obtain ⟨gk, ok, ha, _, ⟨ab, ap, nb, cb, np, cp, hr, htb, htp⟩, hin⟩ := (HK.out).2.2.2 k (by have := HN.out; omega)
        obtain ⟨op, hop⟩ : ∃ op, op = os.getD k kop0 := ⟨_, rfl⟩
        rw [← hop] at hr htb htp hin
        subst ha
        have HR := Lib.hid (show wr.rangeAt gk (ok + k * 6) (kcells op ab ap nb cb np cp) from fun j y hj => by have h := hr j y hj; exact (HT.out.bl.cell (p := ⟨gk, ok + k * 6 + j, none⟩) (block_lt_of_cell h)).trans h)
        have HTB := Lib.hid htb
        have HTP := Lib.hid htp
        have HIN := Lib.hid hin
        have HLT := Lib.hid hlt
        have HNL := Lib.hid (show ¬ longK op from HW.out.1 op (by rw [hop, List.getD, List.getElem?_eq_getElem (by have := HN.out; omega)]; exact List.getElem_mem _))
        have HL2 := Lib.hid (show k ≤ 200 by have := HW.out.2; have := HN.out; omega)
        clear hr htb htp hop hin
        have HZ := Lib.hid (show (Try.prog.info? 33).map (·.size) = some (kcells op ab ap nb cb np cp).toArray.size from size_kop)
        go_wp2_with (first | (refine wpList_load_mid rfl 33 (.tmp 40) rfl gk (ok + k * 6) rfl (kcells op ab ap nb cb np cp) _ HR.out Try.underlying33 rfl size_kop ?_) | (refine wpList_store_abs rfl 33 (.tmp 10) (.tmp 41) rfl wr.heap.size (kcells op ab ap nb cb np cp).toArray (by rfl) (by rfl) 33 _ (Blk.new wr _ _) HZ.out (by rfl) (kcells_one _ _ _ _ _ _ _) ?_; intro W hW p5; have HT := Lib.hid (HT.out.on (hW.below ((Below.refl _ wr).alloc (Nat.le_refl _) _) (Nat.le_refl _))); have HP5 := Lib.hid p5; clear hW p5) | (refine wpList_load_sub rfl 33 (.tmp 10) rfl wr.heap.size 0 rfl HP5.out (kcells op ab ap nb cb np cp) (fun j _ => by simp) _ Try.underlying33 rfl size_kop ?_))
        refine (does17_walk op ab ap nb cb np cp w0 _ HT.out (HLS.out.mono (by have := HL2.out; omega)) (HLR.out.mono (by have := HL2.out; omega)) HNL.out HIN.out HTB.out HTP.out).mono ?_
        rintro e w5 ⟨t, rfl, _, v5, x5, hT, _, _, _⟩
        have HJ5 := Lib.hid (show WornJ w0 w5 b g q b' u (k + 1) from ⟨_, _, _, _, _, hT, HLS.out.step op, HLR.out.step op⟩)
        clear hT
        go_wp2
        go_roundw
        case rel => exact ⟨k + 1, by have := HLT.out; omega, by go_num, HJ5.out⟩
        case measure => have := HLT.out; simp [intOf]; omega
      · have HL2 := Lib.hid (show S.Lim 200 from HLS.out.mono (by have := HW.out.2; have := HN.out; omega))
        have HQ8 := Lib.hid (show 8 ≤ q ∧ q ≤ 64 by have := HQ.out; omega)
        go_wp2_with fail
        refine (don_at _ HT.out.d).mono ?_
        rintro e w6 ⟨rfl, rfl⟩
        cases hg : S.gone with
        | false =>
          have HG := Lib.hid hg
          clear hg
          go_wp2_with fail
          refine (dcalm_at _ HT.out.d).mono ?_
          rintro e w7 ⟨⟨u7, rfl⟩, hD, hO⟩
          have HT7 := Lib.hid (HT.out.dstep hD (hO.mono fun k e => .inl e) (fun k e => .inl e))
          clear hD hO
          go_wp2
          go_ret
          exact ⟨_, rfl, HT7.out.bl, .inr ⟨b, g, q, v, S.calm, rfl, HT7.out.d, HQ8.out, HT7.out.fd, ⟨HG.out, rfl⟩, HL2.out⟩⟩
        | true =>
          clear hg
          go_wp2_with fail
          refine (dcrash_at none 0 0 [] rfl _ HT.out.d (by have := HL2.out.1; omega) (fun i hi => by cases hi)).mono ?_
          rintro e w7 ⟨⟨u7, rfl⟩, v7, hD, hO, hv⟩
          have HT7 := Lib.hid (HT.out.dstep hD hO (fun k e => .inl (hv k e)))
          clear hD hO hv
          go_wp2_with fail
          refine (dcalm_at _ HT7.out.d).mono ?_
          rintro e w8 ⟨⟨u8, rfl⟩, hD, hO⟩
          have HT8 := Lib.hid (HT7.out.dstep hD (hO.mono fun k e => .inl e) (fun k e => .inl e))
          clear hD hO
          go_wp2
          go_ret
          exact ⟨_, rfl, HT8.out.bl, .inr ⟨b, g, q, v7, (S.crash []).calm, rfl, HT8.out.d, HQ8.out, HT8.out.fd, ⟨rfl, rfl⟩, HL2.out.crash []⟩⟩
end Go.Proofs.Ytgbahfggnbpnmaa
