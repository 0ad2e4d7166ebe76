import Derived.Test.YtgbahfggnbpnmaaLwK
import Derived.IntWalk
/-
  The walk of liverylaw17.DiskLoads.
-/
namespace Go.Proofs.Ytgbahfggnbpnmaa
open Go.RowKit
theorem pwrap_bv8 (x : BitVec 8) : IntKind.u8.wrap (x.toNat : Int) = (x.toNat : Int) := by
  have := x.isLt
  simp [IntKind.wrap, IntKind.bits, IntKind.signed]; omega
theorem pu8_xor (x : UInt8) : bits .xor .u8 (x.toNat : Int) 255 = ((x ^^^ 255).toNat : Int) := by
  show IntKind.u8.wrap ((BitVec.ofInt 8 (x.toNat : Int) ^^^ BitVec.ofInt 8 255).toNat : Int) = _
  rw [pwrap_bv8]
  have e : BitVec.ofInt 8 (x.toNat : Int) = x.toBitVec := by
    apply BitVec.eq_of_toNat_eq
    have := x.toNat_lt
    simp
  rw [e]
  rfl
theorem OwnB.farN {w w' : World} {lo go : Nat} {v : Value} {l : List UInt8} (h : OwnB w lo v l) (hO : Only (· = go) w w') (hne : ∀ k, v.ownBlock = some k → k ≠ go) : OwnB w' lo v l :=
  row_same h fun k e => hO.same k (h.lt k e).2 (hne k e)
set_option maxRecDepth 100000 in
set_option maxHeartbeats 4000000 in
theorem diskLoads_walk (l : List UInt8) (i : Int) (a : Option Addr) (m c : Nat) (w0 : World) (hm : l.length ≤ 140737488355328) (hT : Txt w0 a m c l) :
    Calls Try.prog 7 #[.slice a m c, .int .i64 i] w0 fun e w' => e = .returned (.bool true) ∧ Below w0.heap.size w0 w' := by
  have HT0 := Lib.hid hT
  have HM := Lib.hid hT.len
  have HMX := Lib.hid hm
  clear hT hm
  go_enter Try.func7, Try.ntmps7
  by_cases h1 : 20000 < m
  · by_cases h2 : m ≤ 600000
    · have h1' : (20000 : Int) < (m : Int) := by omega
      have h2' : (m : Int) ≤ 600000 := by omega
      have h3' : decide ((m : Int) ≤ 600000) = true := decide_eq_true h2'
      go_wp2_with fail
      refine (live17_walk _).mono ?_
      rintro e w3 ⟨rfl, hb⟩
      have HB3 := Lib.hid hb
      clear hb
      go_wp2
      go_ret
      exact ⟨rfl, HB3.out⟩
    · have h1' : (20000 : Int) < (m : Int) := by omega
      have h2' : decide ((m : Int) ≤ 600000) = false := decide_eq_false (by omega)
      have HBAD := Lib.hid (show l.length % 256 ≠ 0 ∨ l.length / 256 < 8 ∨ 2048 < l.length / 256 by have := HM.out; omega)
      clear h1 h2
      go_wp2_with fail
      refine (join1 w0 30 _ rfl HT0.out HMX.out).mono ?_
      rintro e w1 ⟨ao, no, co, rfl, hO, hb⟩
      have HOW := Lib.hid hO.len
      have HB := Lib.hid hb
      clear hO hb
      go_wp2_with fail
      refine (dload_bad l HBAD.out (by have := HMX.out; omega) ao no co HOW.out _).mono ?_
      rintro e w2 ⟨rfl, rfl⟩
      go_wp2_with fail
      refine (rload_bad l HBAD.out (by have := HMX.out; omega) a m c HM.out _).mono ?_
      rintro e w3 ⟨rfl, rfl⟩
      go_wp2_with fail
      refine (live17_walk _).mono ?_
      rintro e w4 ⟨rfl, hb⟩
      have HB4 := Lib.hid (HB.out.trans (hb.mono HB.out.size))
      clear hb
      go_wp2
      go_ret
      exact ⟨rfl, HB4.out⟩
  · have h1' : ¬ (20000 : Int) < (m : Int) := by omega
    by_cases hbad : l.length % 256 ≠ 0 ∨ l.length / 256 < 8 ∨ 2048 < l.length / 256
    · have HBAD := Lib.hid hbad
      clear h1 hbad
      go_wp2_with fail
      refine (join1 w0 30 _ rfl HT0.out HMX.out).mono ?_
      rintro e w1 ⟨ao, no, co, rfl, hO, hb⟩
      have HOW := Lib.hid hO.len
      have HB := Lib.hid hb
      clear hO hb
      go_wp2_with fail
      refine (dload_bad l HBAD.out (by have := HMX.out; omega) ao no co HOW.out _).mono ?_
      rintro e w2 ⟨rfl, rfl⟩
      go_wp2_with fail
      refine (rload_bad l HBAD.out (by have := HMX.out; omega) a m c HM.out _).mono ?_
      rintro e w3 ⟨rfl, rfl⟩
      go_wp2_with fail
      refine (live17_walk _).mono ?_
      rintro e w4 ⟨rfl, hb⟩
      have HB4 := Lib.hid (HB.out.trans (hb.mono HB.out.size))
      clear hb
      go_wp2
      go_ret
      exact ⟨rfl, HB4.out⟩
    · obtain ⟨n, hn⟩ : ∃ n, n = l.length / 256 := ⟨_, rfl⟩
      have HLL := Lib.hid (show l.length = n * 256 by omega)
      have HN := Lib.hid (show 8 ≤ n ∧ n ≤ 2048 by omega)
      have HN8 := Lib.hid (show n * 256 ≤ 20000 by have := HM.out; omega)
      have HSW := Lib.hid (show (loadS l).wait = [] from rfl)
      have HXR := Lib.hid (show ∀ q, ((loadS l).latest q).length ≤ 256 from fun q => by
        show ((loadS l).good.getD q []).length ≤ 256
        rcases Nat.lt_or_ge q (loadS l).good.length with h | h
        · rw [getD_of h]; exact Nat.le_of_eq ((loadS_ok HLL.out).sec _ (List.getElem_mem _))
        · rw [List.getD_eq_getElem?_getD, List.getElem?_eq_none h]; simp)
      clear h1 hbad hn
      go_wp2_with fail
      refine (join1 w0 30 _ rfl HT0.out HMX.out).mono ?_
      rintro e w1 ⟨ao, no, co, rfl, hO, hb⟩
      have HOW := Lib.hid hO
      have HB := Lib.hid hb
      have hno : no ≤ 1000000 := by rw [hO.len, HLL.out]; have := HN8.out; omega
      clear hO hb
      go_wp2_with fail
      refine (dload_walk l n HN.out HLL.out ao no co _ HOW.out.txt).mono ?_
      rintro e w2 ⟨b, g, rfl, hD, hF, hb⟩
      have HKO := Lib.hid (show ∀ j, (Value.slice ao no co).ownBlock = some j → j < w2.heap.size from fun j e => Nat.lt_of_lt_of_le (HOW.out.lt j e).2 hb.size)
      have HOW := Lib.hid (HOW.out.below hb)
      have HD := Lib.hid hD
      have HF := Lib.hid (show ∀ k, Foot b g (.slice none 0 0) k → w0.heap.size ≤ k from fun k hk => Nat.le_trans HB.out.size (hF k hk))
      have HB := Lib.hid (HB.out.trans (hb.mono HB.out.size))
      clear hD hF hb
      go_wp2_with fail
      refine (rload_walk l n HN.out HLL.out a m c _ (HT0.out.below HB.out)).mono ?_
      rintro e w3 ⟨b', u, rfl, hR, hF, hb⟩
      have HT := Lib.hid (show Two17 w0 w3 (w2.heap.size ≤ ·) b g n (.slice none 0 0) (loadS l) b' n u (.slice none 0 0) (loadS l) from ⟨HD.out.on hb, hR, HF.out, fun k hk => Nat.le_trans HB.out.size (hF k hk), HB.out.trans (hb.mono HB.out.size)⟩)
      have HOW := Lib.hid (HOW.out.below hb)
      clear hR hF hb HD HB
      go_wp2_with fail
      refine (live17_walk _).mono ?_
      rintro e w4 ⟨rfl, hb⟩
      have HT := Lib.hid (HT.out.on hb)
      have HOW := Lib.hid (HOW.out.below hb)
      clear hb
      generalize w2.heap.size = rlo at *
      go_wp2
      go_loopw [57] (fun y wr => ∃ (k : Nat) (l2 : List UInt8), k ≤ no ∧ y = .int .i64 (k : Nat) ∧ Hid (OwnB wr w0.heap.size (.slice ao no co) l2) ∧ Hid (Two17 w0 wr (rlo ≤ ·) b g n (.slice none 0 0) (loadS l) b' n u (.slice none 0 0) (loadS l))) (fun y _ => no - (intOf y).toNat)
      case atStart => exact ⟨0, _, Nat.zero_le _, rfl, HOW.out, HT.out⟩
      case round =>
        obtain ⟨k, l2, hk, rfl, HOW, HT⟩ := hrel
        by_cases hlt : k < no
        · obtain ⟨go, hgo0, hgo, hc, hf, cur, hcu⟩ := HOW.out.at_ (k := k) (by rw [← HOW.out.len]; exact hlt)
          obtain ⟨y, hy⟩ : ∃ y : UInt8, y = l2.getD k 0 := ⟨_, rfl⟩
          rw [← hy] at hc
          have hc2 : _ = some (Value.int .u8 (y.toNat : Nat)) := hc
          have hx := pu8_xor y
          have hx255 : Value.int .u8 ((y.toNat ^^^ 255 : Nat) : Int) = bv (y ^^^ 255) := congrArg (Value.int .u8) (by simp)
          subst hgo0
          have HCU := Lib.hid hcu
          have HGO := Lib.hid hgo
          have HLT := Lib.hid hlt
          have HX := Lib.hid hx255
          clear hc hy hcu hgo hx255
          go_wp2
          have hx255 := HX.out
          rw [hx255]
          have hOc : Only (· = go) wr (wr.setCell ⟨go, k, none⟩ (bv (y ^^^ 255))) := Only.cell wr _ rfl
          have HOC := Lib.hid hOc
          clear hOc hx hx255 hc2
          go_roundw
          case rel => exact ⟨k + 1, l2.set k (y ^^^ 255), by have := HLT.out; omega, by go_num, HOW.out.setp k _, ⟨HT.out.d.keep HOC.out (fun j hj e => HT.out.d.foot_ne HCU.out (e ▸ hj)), HT.out.r.keep HOC.out (fun j hj e => HT.out.r.foot_ne HCU.out (e ▸ hj)) (fun j _ hj _ e => by have q := HKO.out go rfl; have hj2 : rlo ≤ j := hj; omega), HT.out.fd, HT.out.fr, HT.out.bl.trans (HOC.out.below (fun j e => by subst e; exact HGO.out) HT.out.bl.size)⟩⟩
          case measure => have := HLT.out; simp [intOf]; omega
        · go_wp2_with fail
          refine (dread_at i _ HT.out.d (by rw [HSW.out]; simp)).mono ?_
          rintro e w5 ⟨ux, rfl, hOx, hb⟩
          obtain ⟨ax, cx, rfl, _⟩ := hOx.form
          obtain ⟨nx, hnx⟩ : ∃ nx, nx = ((loadS l).read i).1.length := ⟨_, rfl⟩
          rw [← hnx] at hOx ⊢
          have HNX := Lib.hid hnx
          have HXL := Lib.hid HT.out.bl.size
          have HT := Lib.hid (HT.out.on hb)
          have HXO := Lib.hid hOx
          clear hOx hb hnx
          go_wp2_with fail
          refine (rread_at i _ HT.out.r (by rw [HSW.out]; simp)).mono ?_
          rintro e w6 ⟨uy, rfl, hOy, hb⟩
          obtain ⟨ay, cy, rfl, _⟩ := hOy.form
          obtain ⟨ny, hny⟩ : ∃ ny, ny = ((loadS l).read i).1.length := ⟨_, rfl⟩
          rw [← hny] at hOy ⊢
          have HXU := Lib.hid (show ∀ j, (Value.slice ax nx cx).ownBlock = some j → j < w5.heap.size from fun j e => (HXO.out.lt j e).2)
          have HT := Lib.hid (HT.out.on hb)
          have HXO := Lib.hid (HXO.out.below hb)
          have HYO := Lib.hid hOy
          clear hOy hb hny
          go_wp2_with fail
          refine (equal_q _ _ _ _ _ _ _ _ HXO.out.txt HYO.out.txt).mono ?_
          rintro e w7 ⟨rfl, rfl⟩
          obtain ⟨er, her⟩ : ∃ er, er = ((loadS l).read i).2 := ⟨_, rfl⟩
          rw [← her]
          have HER := Lib.hid her
          have q1 : (er == er) = true := by simp
          have q2 : (er != er) = false := by simp
          clear her
          go_wp2_with fail
          refine (same17_walk _ HT.out.d HT.out.r).mono ?_
          rintro e w7 ⟨rfl, hb⟩
          have HT := Lib.hid (HT.out.on hb)
          have HXO := Lib.hid (HXO.out.below hb)
          have HYO := Lib.hid (HYO.out.below hb)
          have HD := Lib.hid HT.out.d
          have HB := Lib.hid HT.out.bl
          have hnx : nx ≤ 1000000 := by
            rw [HNX.out]; unfold DS.read; split
            · simp
            · split
              · simp
              · simp; have := HXR.out i.toNat; omega
          clear hb HT
          generalize wr.heap.size = xlo at *
          generalize w5.heap.size = ylo at *
          go_wp2
          go_loopw [96] (fun y wr => ∃ (k : Nat) (l2 : List UInt8), k ≤ nx ∧ y = .int .i64 (k : Nat) ∧ Hid (OwnB wr xlo (.slice ax nx cx) l2) ∧ Hid (DiskAt wr b g n (.slice none 0 0) (loadS l)) ∧ Hid (OwnB wr ylo (.slice ay ny cy) ((loadS l).read i).1) ∧ Hid (Below w0.heap.size w0 wr)) (fun y _ => nx - (intOf y).toNat)
          case atStart => exact ⟨0, _, Nat.zero_le _, rfl, HXO.out, HD.out, HYO.out, HB.out⟩
          case round =>
            obtain ⟨k, l2, hk, rfl, HOW, HD, HYO, HB⟩ := hrel
            by_cases hlt : k < nx
            · obtain ⟨go, hgo0, hgo, hc, hf, cur, hcu⟩ := HOW.out.at_ (k := k) (by rw [← HOW.out.len]; exact hlt)
              obtain ⟨y, hy⟩ : ∃ y : UInt8, y = l2.getD k 0 := ⟨_, rfl⟩
              rw [← hy] at hc
              have hc2 : _ = some (Value.int .u8 (y.toNat : Nat)) := hc
              have hx := pu8_xor y
              have hx255 : Value.int .u8 ((y.toNat ^^^ 255 : Nat) : Int) = bv (y ^^^ 255) := congrArg (Value.int .u8) (by simp)
              subst hgo0
              have HCU := Lib.hid hcu
              have HGO := Lib.hid hgo
              have HLT := Lib.hid hlt
              have HX := Lib.hid hx255
              clear hc hy hcu hgo hx255
              go_wp2
              have hx255 := HX.out
              rw [hx255]
              have hOc : Only (· = go) wr (wr.setCell ⟨go, k, none⟩ (bv (y ^^^ 255))) := Only.cell wr _ rfl
              have HOC := Lib.hid hOc
              clear hOc hx hx255 hc2
              go_roundw
              case rel => exact ⟨k + 1, l2.set k (y ^^^ 255), by have := HLT.out; omega, by go_num, HOW.out.setp k _, HD.out.keep HOC.out (fun j hj e => HD.out.foot_ne HCU.out (e ▸ hj)), HYO.out.farN HOC.out (fun j e => by have h1 := (HYO.out.lt j e).1; have h2 := HXU.out go rfl; omega), HB.out.trans (HOC.out.below (fun j e => by subst e; have := HGO.out; have := HXL.out; omega) HB.out.size)⟩
              case measure => have := HLT.out; simp [intOf]; omega
            · go_wp2_with fail
              refine (dimage_at _ HD.out).mono ?_
              rintro e w8 ⟨az, mz, rfl, hOz, hb⟩
              have HZO := Lib.hid hOz
              have HYU := Lib.hid (show ∀ j, (Value.slice ay ny cy).ownBlock = some j → j < wr.heap.size from fun j e => (HYO.out.lt j e).2)
              have HYO := Lib.hid (HYO.out.below hb)
              have HZL := Lib.hid HB.out.size
              have HD := Lib.hid (HD.out.on hb)
              have HB := Lib.hid (HB.out.trans (hb.mono HB.out.size))
              have hmz : mz ≤ 1000000 := by rw [HZO.out.len, show (loadS l).image = l from loadS_image HLL.out, HLL.out]; have := HN8.out; omega
              clear hOz hb
              generalize wr.heap.size = zlo at *
              go_wp2
              go_loopw [110] (fun y wr => ∃ (k : Nat) (l2 : List UInt8), k ≤ mz ∧ y = .int .i64 (k : Nat) ∧ Hid (OwnB wr zlo (.slice az mz mz) l2) ∧ Hid (DiskAt wr b g n (.slice none 0 0) (loadS l)) ∧ Hid (OwnB wr ylo (.slice ay ny cy) ((loadS l).read i).1) ∧ Hid (Below w0.heap.size w0 wr)) (fun y _ => mz - (intOf y).toNat)
              case atStart => exact ⟨0, _, Nat.zero_le _, rfl, HZO.out, HD.out, HYO.out, HB.out⟩
              case round =>
                obtain ⟨k, l2, hk, rfl, HOW, HD, HYO, HB⟩ := hrel
                by_cases hlt : k < mz
                · obtain ⟨go, hgo0, hgo, hc, hf, cur, hcu⟩ := HOW.out.at_ (k := k) (by rw [← HOW.out.len]; exact hlt)
                  obtain ⟨y, hy⟩ : ∃ y : UInt8, y = l2.getD k 0 := ⟨_, rfl⟩
                  rw [← hy] at hc
                  have hc2 : _ = some (Value.int .u8 (y.toNat : Nat)) := hc
                  have hx := pu8_xor y
                  have hx255 : Value.int .u8 ((y.toNat ^^^ 255 : Nat) : Int) = bv (y ^^^ 255) := congrArg (Value.int .u8) (by simp)
                  subst hgo0
                  have HCU := Lib.hid hcu
                  have HGO := Lib.hid hgo
                  have HLT := Lib.hid hlt
                  have HX := Lib.hid hx255
                  clear hc hy hcu hgo hx255
                  go_wp2
                  have hx255 := HX.out
                  rw [hx255]
                  have hOc : Only (· = go) wr (wr.setCell ⟨go, k, none⟩ (bv (y ^^^ 255))) := Only.cell wr _ rfl
                  have HOC := Lib.hid hOc
                  clear hOc hx hx255 hc2
                  go_roundw
                  case rel => exact ⟨k + 1, l2.set k (y ^^^ 255), by have := HLT.out; omega, by go_num, HOW.out.setp k _, HD.out.keep HOC.out (fun j hj e => HD.out.foot_ne HCU.out (e ▸ hj)), HYO.out.farN HOC.out (fun j e => by have := HYU.out j e; have := HGO.out; omega), HB.out.trans (HOC.out.below (fun j e => by subst e; have := HGO.out; have := HZL.out; omega) HB.out.size)⟩
                  case measure => have := HLT.out; simp [intOf]; omega
                · go_wp2_with fail
                  refine (dread_at i _ HD.out (by rw [HSW.out]; simp)).mono ?_
                  rintro e w9 ⟨uw, rfl, hOw, hb⟩
                  rw [← HER.out]
                  obtain ⟨aw, cw, rfl, _⟩ := hOw.form
                  have HWT := Lib.hid hOw.txt
                  have HD := Lib.hid (HD.out.on hb)
                  have HYT := Lib.hid (HYO.out.txt.below hb)
                  have HB := Lib.hid (HB.out.trans (hb.mono HB.out.size))
                  clear hOw hb
                  go_wp2_with fail
                  refine (equal_q _ _ _ _ _ _ _ _ HWT.out HYT.out).mono ?_
                  rintro e wc ⟨rfl, rfl⟩
                  go_wp2_with fail
                  refine (dimage_at _ HD.out).mono ?_
                  rintro e wd ⟨ad, md, rfl, hO, hb⟩
                  rw [show (loadS l).image = l from loadS_image HLL.out] at hO
                  have HID := Lib.hid hO.txt
                  have HB := Lib.hid (HB.out.trans (hb.mono HB.out.size))
                  have HBT := Lib.hid (HT0.out.below HB.out)
                  clear hO hb
                  go_wp2_with fail
                  refine (equal_q _ _ _ _ _ _ _ _ HID.out HBT.out).mono ?_
                  rintro e we ⟨rfl, rfl⟩
                  go_wp2
                  go_ret
                  exact ⟨rfl, HB.out⟩
end Go.Proofs.Ytgbahfggnbpnmaa
